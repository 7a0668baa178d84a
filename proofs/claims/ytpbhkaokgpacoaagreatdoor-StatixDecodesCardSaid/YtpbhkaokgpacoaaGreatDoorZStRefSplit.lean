import Derived.Test.YtpbhkaokgpacoaaGreatDoorZStRefCheck
set_option linter.unusedSimpArgs false
set_option linter.unusedVariables false
/-
  The contract of the reference's Split: it answers what the program's Split answers.
-/
namespace Go.Proofs.YtpbhkaokgpacoaaGreatDoor.Nm
open Go.RowKit

theorem len_of_owns {w : World} {base : Nat} {e : TypeId} {size : Nat} {v : Value} {n : Nat} {xs : List Value} (h : w.ownsRow base e size v n xs) : ∃ a c, v = .slice a n c := by
  obtain ⟨h1, ⟨rfl, h2⟩ | ⟨g, cap, cur, rfl, _⟩⟩ := h
  · subst h2; exact ⟨none, 0, rfl⟩
  · exact ⟨_, _, rfl⟩
theorem infoStr : (Tryz.prog.info? 9).map (fun i => (i.zero, i.size, i.bytes)) = some (some (.string ByteArray.empty), 1, 16) := by kernel_rfl

/-- How far the reference has cut: 'xs' are done, the next name begins at 'fr', no slash stands from there to i. -/
structure Cut (p : List UInt8) (xs : List (List UInt8)) (fr i : Nat) : Prop where
  le : fr ≤ i
  one : 1 ≤ fr
  top : i ≤ p.length + 1
  len : xs.length ≤ 16
  chks : ∀ x ∈ xs, chk x = true
  none : ∀ c ∈ (p.drop fr).take (i - fr), c ≠ 47
  yet : i ≤ p.length → parts (p.drop 1) = xs ++ parts (p.drop fr)
  done : i = p.length + 1 → parts (p.drop 1) = xs

theorem cut_zero (p : List UInt8) (h : 1 ≤ p.length) : Cut p [] 1 1 := ⟨by omega, by omega, by omega, by simp, by simp, by simp, fun _ => rfl, fun h => by omega⟩

theorem take_succ_drop {p : List UInt8} {fr i : Nat} {c : UInt8} (h : p[i]? = some c) (hle : fr ≤ i) : (p.drop fr).take (i + 1 - fr) = (p.drop fr).take (i - fr) ++ [c] := by
  rw [show i + 1 - fr = (i - fr) + 1 by omega, List.take_add_one, List.getElem?_drop, show fr + (i - fr) = i by omega, h]; rfl

theorem drop_atB {p : List UInt8} {i : Nat} {c : UInt8} (h : p[i]? = some c) : p.drop i = c :: p.drop (i + 1) := by
  obtain ⟨hi, e⟩ := List.getElem?_eq_some_iff.1 h
  rw [List.drop_eq_getElem_cons hi, e]

theorem cut_go {p : List UInt8} {xs : List (List UInt8)} {fr i : Nat} {c : UInt8} (h : Cut p xs fr i) (hc : p[i]? = some c) (hne : c ≠ 47) : Cut p xs fr (i + 1) := by
  have hi : i < p.length := (List.getElem?_eq_some_iff.1 hc).1
  refine ⟨by have := h.le; omega, h.one, by omega, h.len, h.chks, ?_, fun _ => h.yet (by omega), fun e => by omega⟩
  rw [take_succ_drop hc h.le]
  intro x hx
  rcases List.mem_append.1 hx with hx | hx
  · exact h.none x hx
  · simp at hx; subst hx; exact hne

/-- The name that ends at i, where a slash stands or the text ends. -/
theorem cut_name {p : List UInt8} {xs : List (List UInt8)} {fr i : Nat} (h : Cut p xs fr i) (hb : i = p.length ∨ p[i]? = some 47) :
    parts (p.drop 1) = xs ++ (p.drop fr).take (i - fr) :: (if i = p.length then [] else parts (p.drop (i + 1))) := by
  rcases hb with hb | hb
  · rw [if_pos hb, h.yet (by omega)]
    have e : (p.drop fr).take (i - fr) = p.drop fr := List.take_of_length_le (by rw [List.length_drop]; omega)
    rw [e]
    have hn := h.none
    rw [e] at hn
    rw [parts_none _ hn]
  · have hi : i < p.length := (List.getElem?_eq_some_iff.1 hb).1
    rw [if_neg (by omega), h.yet (by omega)]
    have e : p.drop fr = (p.drop fr).take (i - fr) ++ 47 :: p.drop (i + 1) := by
      have h1 := List.take_append_drop (i - fr) (p.drop fr)
      rw [List.drop_drop, show fr + (i - fr) = i by have := h.le; omega] at h1
      have h2 := drop_atB hb
      rw [h2] at h1
      exact h1.symm
    conv => lhs; rw [e, parts_hit _ _ h.none]

theorem cut_next {p : List UInt8} {xs : List (List UInt8)} {fr i : Nat} (h : Cut p xs fr i) (hb : i = p.length ∨ p[i]? = some 47) (hl : xs.length < 16) (hc : chk ((p.drop fr).take (i - fr)) = true) :
    Cut p (xs ++ [(p.drop fr).take (i - fr)]) (i + 1) (i + 1) := by
  have hn := cut_name h hb
  have hi : i ≤ p.length := by
    rcases hb with hb | hb
    · omega
    · have := (List.getElem?_eq_some_iff.1 hb).1; omega
  refine ⟨by omega, by omega, by omega, by simp; omega, ?_, by simp, fun e => ?_, fun e => ?_⟩
  · intro x hx
    rcases List.mem_append.1 hx with hx | hx
    · exact h.chks x hx
    · simp at hx; subst hx; exact hc
  · rw [hn, if_neg (by omega)]; simp
  · rw [hn, if_pos (by omega)]


set_option maxHeartbeats 2000000 in
set_option maxRecDepth 100000 in
theorem ref_split (p : ByteArray) (w : World) (hT : Tabs w) (hs : p.size ≤ 4611686018427387904) :
    Calls Tryz.prog 40 #[.string p] w (SplitPost p.data.toList w) := by
  obtain ⟨i0, hi, hz0, hz1, hz2⟩ := info_parts infoStr
  have hsz := Lib.size_eq p
  by_cases h0 : p.data.toList = [47]
  · have h0' : (p.toList == [47]) = true := by rw [Lib.toList_data]; simpa using h0
    have hend : ∀ w', Below w.heap.size w w' → SplitPost p.data.toList w (.returned (.tuple #[.slice none 0 0, .int .i64 0])) w' := by
      intro w' hb
      have hp : splitP p.data.toList = some [] := by rw [splitP, if_pos h0]
      refine ⟨.slice none 0 0, by rw [splitE, hp]; rfl, ?_, hb⟩
      rw [splitL, hp]; exact ⟨rfl, .inl ⟨rfl, rfl⟩⟩
    have HE := Lib.hid hend
    clear h0 hend hsz
    go_enter Tryz.func40, Tryz.ntmps40
    go_wp2
    go_ret2
    exact HE.out _ (Below.refl _ _)
  have h0' : (p.toList == [47]) = false := by rw [Lib.toList_data]; simpa using h0
  by_cases h1 : p.data.toList = []
  · have h1' : p.toList.isEmpty = true := by rw [Lib.toList_data, h1]; rfl
    have HN := Lib.hid (splitP_no1 h0 (by rw [h1]; rfl))
    clear hsz h1 h0
    go_enter Tryz.func40, Tryz.ntmps40
    go_wp2
    go_ret2
    exact splitPost_no HN.out rfl (Below.refl _ _)
  have h1' : p.toList.isEmpty = false := by
    rw [Lib.toList_data]
    cases h : p.data.toList with
    | nil => exact absurd h h1
    | cons _ _ => rfl
  have hps : 0 < p.size := by rw [hsz]; exact List.length_pos_iff.2 h1
  have hp0 : p.data.toList[0]? = some p[0] := by
    rw [List.getElem?_eq_getElem (by omega)]; exact congrArg some (Array.getElem_toList (xs := p.data) hps)
  by_cases h2 : p[0] = 47
  · have hb2 : ((p[0].toNat : Int) != 47) = false := by rw [h2]; rfl
    have hpre : Lib.hasPrefix p.data.toList [47] = true := (hasPrefix_one _).2 (by
      cases h : p.data.toList with
      | nil => exact absurd h h1
      | cons a t => rw [h] at hp0; simp at hp0; exact ⟨t, by rw [hp0, h2]⟩)
    have hcz := cut_zero p.data.toList (by omega)
    have hcount : p.data.toList.count 47 = (parts (p.data.toList.drop 1)).length := by
      obtain ⟨t, e⟩ := (hasPrefix_one _).1 hpre
      rw [parts_count, e]; simp
    have H0 := Lib.hid h0; have HPRE := Lib.hid hpre; have HZ := Lib.hid hsz; have HCZ := Lib.hid hcz; have HCO := Lib.hid hcount
    clear h0 h1 hp0 h2 hpre hsz hcz hcount
    go_enter Tryz.func40, Tryz.ntmps40
    go_wp2
    go_loopw [4, 5, 6] (fun s4 s5 s6 wr => ∃ (xs : List (List UInt8)) (fr i : Nat), s5 = .int .i64 fr ∧ s6 = .int .i64 i ∧ Cut p.data.toList xs fr i ∧
      wr.ownsRow w.heap.size 9 1 s4 xs.length (xs.map sv) ∧ Below w.heap.size w wr) (fun _ _ s6 _ => p.size + 1 - (intOf s6).toNat)
    case atStart => exact ⟨[], 1, 1, rfl, rfl, HCZ.out, ⟨rfl, .inl ⟨rfl, rfl⟩⟩, Below.refl _ _⟩
    case round =>
      obtain ⟨xs, fr, i, rfl, rfl, hcut, hown, hbw⟩ := hrel
      have hle := hcut.le
      have hone := hcut.one
      have htop : i ≤ p.size + 1 := by have := hcut.top; have := HZ.out; omega
      have hx16 := hcut.len
      obtain ⟨a4, c4, rfl⟩ := len_of_owns hown
      have HCUT := Lib.hid hcut
      clear hcut
      by_cases hi1 : i ≤ p.size
      · by_cases hgo : ∃ c, p.data.toList[i]? = some c ∧ c ≠ 47
        · obtain ⟨c, hc, hne⟩ := hgo
          have hlt : i < p.size := by rw [HZ.out]; exact (List.getElem?_eq_some_iff.1 hc).1
          have hpi : p[i] = c := by
            have h := (List.getElem?_eq_some_iff.1 hc).2
            rw [← h]; exact (Array.getElem_toList (xs := p.data) hlt).symm
          have hbne : ((c.toNat : Int) != 47) = true := by
            rw [bne_iff_ne]; intro e; exact hne (UInt8.toNat_inj.1 (by show _ = 47; omega))
          have HN := Lib.hid (cut_go HCUT.out hc hne)
          clear hc hne
          go_wp2
          go_roundw
          case rel => exact ⟨xs, fr, i + 1, rfl, by go_num, HN.out, hown, hbw⟩
          case measure => simp [intOf]; omega
        · have hb : i = p.data.toList.length ∨ p.data.toList[i]? = some 47 := by
            by_cases e : i = p.size
            · left; rw [← HZ.out]; exact e
            · right
              have hl : i < p.data.toList.length := by have := HZ.out; omega
              rw [List.getElem?_eq_getElem hl]
              by_cases e2 : p.data.toList[i] = 47
              · rw [e2]
              · exact absurd ⟨_, List.getElem?_eq_getElem hl, e2⟩ hgo
          have HB := Lib.hid hb
          have hnm := cut_name HCUT.out hb
          have HNM := Lib.hid hnm
          have hx : (p.extract fr i).data.toList = (p.data.toList.drop fr).take (i - fr) := Lib.extract_data p fr i
          have HX := Lib.hid hx
          have hch := fun w hT => ref_check (p.extract fr i) w hT
          rw [hx] at hch
          -- the three facts that decide the guard
          have hd : (i = p.size ∧ decide ((i : Int) < p.size) = false) ∨ (∃ h : i < p.size, ((p[i].toNat : Int) != 47) = false) := by
            rcases hb with hb | hb
            · left; have := HZ.out; exact ⟨by omega, by simp; omega⟩
            · right
              have hl : i < p.size := by rw [HZ.out]; exact (List.getElem?_eq_some_iff.1 hb).1
              refine ⟨hl, ?_⟩
              have h := (List.getElem?_eq_some_iff.1 hb).2
              have : p[i] = 47 := by rw [← h]; exact (Array.getElem_toList (xs := p.data) hl).symm
              rw [this]; rfl
          clear hgo hb hnm hx
          rcases hd with ⟨hie, hde⟩ | ⟨hil, hpe⟩
          · subst hie
            by_cases hl : xs.length = 16
            · have bl : ((xs.length : Int) == 16) = true := by rw [beq_iff_eq]; omega
              have HN := Lib.hid (splitP_no2 H0.out (by
                rw [HCO.out, HNM.out, List.length_append, List.length_cons]; omega))
              clear hl hch
              go_wp2
              go_ret2
              exact splitPost_no HN.out rfl hbw
            · have bl : ((xs.length : Int) == 16) = false := by rw [beq_eq_false_iff_ne]; omega
              have hl16 : xs.length < 16 := by omega
              cases hcb : chk ((p.data.toList.drop fr).take (p.size - fr)) with
              | false =>
                have e1 : chkN ((p.data.toList.drop fr).take (p.size - fr)) = 10 := by rw [chkN, hcb]; rfl
                rw [e1] at hch
                have HN := Lib.hid (splitP_no3 (n := (p.data.toList.drop fr).take (p.size - fr)) H0.out (by rw [HNM.out]; simp) hcb)
                have HCH := Lib.hid hch
                clear hl hch e1 hcb
                go_wp2_with fail
                refine (HCH.out _ (hT.below hbw)).mono ?_
                rintro e w1 ⟨rfl, hb1⟩
                go_wp2
                go_ret2
                exact splitPost_no HN.out rfl (hbw.trans (hb1.mono hbw.size))
              | true =>
                have e1 : chkN ((p.data.toList.drop fr).take (p.size - fr)) = 0 := by rw [chkN, hcb]; rfl
                rw [e1] at hch
                have HNX := Lib.hid (cut_next HCUT.out HB.out hl16 hcb)
                have HCH := Lib.hid hch
                clear hl hch e1 hcb
                go_wp2_with fail
                refine (HCH.out _ (hT.below hbw)).mono ?_
                rintro e w1 ⟨rfl, hb1⟩
                have hown1 := ownsRow_below hown hb1
                have hbw1 := hbw.trans (hb1.mono hbw.size)
                have hs1 := hbw1.size
                clear hown hb1 hbw
                go_wp2_with (at_builtin; refine wpList_append_own _ rfl _ _ 34 rfl w.heap.size 9 i0 (.string ByteArray.empty) 1 16 Tryz.underlying34 hi hz0 hz1 hz2 rfl (by decide) _ _ _ rfl (hown1.alloc _) ⟨w1.heap.size, 0, none⟩ 1 1 [.string (p.extract fr p.size)] rfl rfl ?c1 ?c2 ?c3 ?c4 ?c5 ?_)
                case c1 => exact cell_one_new _ _ _
                case c2 => intro u hu; simp at hu; subst hu; rfl
                case c3 => unfold maxLen; omega
                case c4 => omega
                case c5 => simp; omega
                · intro v' w2 hown' hgrow _
                  go_wp2
                  go_roundw
                  case rel =>
                    refine ⟨xs ++ [(p.data.toList.drop fr).take (p.size - fr)], p.size + 1, p.size + 1, by go_num, by go_num, HNX.out, ?_, ?_⟩
                    · have e : sv ((p.data.toList.drop fr).take (p.size - fr)) = .string (p.extract fr p.size) := by rw [← HX.out, sv_data]
                      rw [List.map_append, List.map_cons, List.map_nil, e]
                      simpa using hown'
                    · exact (hbw1.alloc hs1 _).grown hgrow (by simp; omega) (fun k hk => own_ge hown1 k hk)
                  case measure => simp [intOf]
          · by_cases hl : xs.length = 16
            · have bl : ((xs.length : Int) == 16) = true := by rw [beq_iff_eq]; omega
              have HN := Lib.hid (splitP_no2 H0.out (by
                rw [HCO.out, HNM.out, List.length_append, List.length_cons]; omega))
              clear hl hch
              go_wp2
              go_ret2
              exact splitPost_no HN.out rfl hbw
            · have bl : ((xs.length : Int) == 16) = false := by rw [beq_eq_false_iff_ne]; omega
              have hl16 : xs.length < 16 := by omega
              cases hcb : chk ((p.data.toList.drop fr).take (i - fr)) with
              | false =>
                have e1 : chkN ((p.data.toList.drop fr).take (i - fr)) = 10 := by rw [chkN, hcb]; rfl
                rw [e1] at hch
                have HN := Lib.hid (splitP_no3 (n := (p.data.toList.drop fr).take (i - fr)) H0.out (by rw [HNM.out]; simp) hcb)
                have HCH := Lib.hid hch
                clear hl hch e1 hcb
                go_wp2_with fail
                refine (HCH.out _ (hT.below hbw)).mono ?_
                rintro e w1 ⟨rfl, hb1⟩
                go_wp2
                go_ret2
                exact splitPost_no HN.out rfl (hbw.trans (hb1.mono hbw.size))
              | true =>
                have e1 : chkN ((p.data.toList.drop fr).take (i - fr)) = 0 := by rw [chkN, hcb]; rfl
                rw [e1] at hch
                have HNX := Lib.hid (cut_next HCUT.out HB.out hl16 hcb)
                have HCH := Lib.hid hch
                clear hl hch e1 hcb
                go_wp2_with fail
                refine (HCH.out _ (hT.below hbw)).mono ?_
                rintro e w1 ⟨rfl, hb1⟩
                have hown1 := ownsRow_below hown hb1
                have hbw1 := hbw.trans (hb1.mono hbw.size)
                have hs1 := hbw1.size
                clear hown hb1 hbw
                go_wp2_with (at_builtin; refine wpList_append_own _ rfl _ _ 34 rfl w.heap.size 9 i0 (.string ByteArray.empty) 1 16 Tryz.underlying34 hi hz0 hz1 hz2 rfl (by decide) _ _ _ rfl (hown1.alloc _) ⟨w1.heap.size, 0, none⟩ 1 1 [.string (p.extract fr i)] rfl rfl ?c1 ?c2 ?c3 ?c4 ?c5 ?_)
                case c1 => exact cell_one_new _ _ _
                case c2 => intro u hu; simp at hu; subst hu; rfl
                case c3 => unfold maxLen; omega
                case c4 => omega
                case c5 => simp; omega
                · intro v' w2 hown' hgrow _
                  go_wp2
                  go_roundw
                  case rel =>
                    refine ⟨xs ++ [(p.data.toList.drop fr).take (i - fr)], i + 1, i + 1, by go_num, by go_num, HNX.out, ?_, ?_⟩
                    · have e : sv ((p.data.toList.drop fr).take (i - fr)) = .string (p.extract fr i) := by rw [← HX.out, sv_data]
                      rw [List.map_append, List.map_cons, List.map_nil, e]
                      simpa using hown'
                    · exact (hbw1.alloc hs1 _).grown hgrow (by simp; omega) (fun k hk => own_ge hown1 k hk)
                  case measure => simp [intOf]; omega
      · have hi2 : i = p.size + 1 := by omega
        have HF : Hid (splitP p.data.toList = some xs) := Lib.hid (by
          have hd := HCUT.out.done (by rw [← HZ.out]; exact hi2)
          have hy := splitP_yes H0.out HPRE.out (by rw [HCO.out, hd]; exact hx16) (by
            rw [hd, List.all_eq_true]; exact HCUT.out.chks)
          rw [hy, hd])
        go_wp2
        go_ret2
        exact ⟨_, by rw [splitE, HF.out]; rfl, by rw [splitL, HF.out]; exact hown, hbw⟩
  · have hb2 : ((p[0].toNat : Int) != 47) = true := by
      rw [bne_iff_ne]; intro e; exact h2 (UInt8.toNat_inj.1 (by show _ = 47; omega))
    have HN := Lib.hid (splitP_no1 h0 (by
      cases h : Lib.hasPrefix p.data.toList [47] with
      | false => rfl
      | true => obtain ⟨t, e⟩ := (hasPrefix_one _).1 h
                rw [e] at hp0; simp at hp0; exact absurd hp0.symm h2))
    clear hsz h1 h0 hp0 h2
    go_enter Tryz.func40, Tryz.ntmps40
    go_wp2
    go_ret2
    exact splitPost_no HN.out rfl (Below.refl _ _)
end Go.Proofs.YtpbhkaokgpacoaaGreatDoor.Nm
