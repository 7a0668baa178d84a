import Derived.Test.YtkdkifciajfpnaaDoorZPNmWhole
import Derived.Deep.OwnRows
import Derived.Deep.LoopGhost
import Derived.Lib.Split
import Derived.Lib.SplitLaws
import Derived.Test.YtkdkifciajfpnaaDoorZPNmCheck
import Derived.Deep.QuietTactic
import Derived.BigQuiet
set_option linter.unusedSimpArgs false
set_option linter.unusedVariables false
/-
  The library's strings.Split at a separator of one byte, where it occurs at most a million times: at texts of whatever length.
-/
namespace Go.Proofs.YtkdkifciajfpnaaDoor.Nm
open Go.RowKit Go.Lib

theorem infoString : (Tryd.prog.info? 9).map (fun i => (i.zero, i.size, i.bytes)) = some (some (.string ByteArray.empty), 1, 16) := by kernel_rfl

theorem indexB_one (x : ByteArray) (c : UInt8) : Lib.indexB x ⟨#[c]⟩ = Lib.indexByte x.data.toList c := Lib.index_one x.data.toList c

set_option maxHeartbeats 4000000 in
set_option maxRecDepth 1000000 in
theorem genSplit_one (s : ByteArray) (c : UInt8) (w : World) (hs : s.size ≤ 4611686018427387904) (hcnt : s.data.toList.count c ≤ 1000000) :
    Calls Tryd.prog 67 #[.string s, .string ⟨#[c]⟩, .int .i64 0, .int .i64 (-1)] w fun e w' =>
      e = .returned (.slice (some ⟨w.heap.size, 0, none⟩) (Lib.splitB ⟨#[c]⟩ 0 (s.data.toList.count c) s).length (s.data.toList.count c + 1)) ∧ w' = w.alloc (.cells (Lib.cellsOf (Lib.splitB ⟨#[c]⟩ 0 (s.data.toList.count c) s) (s.data.toList.count c + 1)) 9) := by
  have hC := Tryd.strings_Count_one s c w
  have hI := fun (x : ByteArray) (w : World) => (Tryd.strings_Index_one x c w).mono (R' := fun e w' => e = .returned (.int .i64 (Lib.indexB x ⟨#[c]⟩)) ∧ w' = w) fun e w' h => by rw [indexB_one]; exact h
  have hcl : s.data.toList.count c ≤ s.size := by rw [Lib.size_eq]; exact List.count_le_length
  unfold Lib.countByte at hC
  have hN : s.data.toList.count c + 1 - 1 = s.data.toList.count c := by omega
  generalize s.data.toList.count c = cn at *
  have hmk := run_make_row' (P := Tryd.prog) 69 9 (.string ByteArray.empty) 16 Tryd.underlying69 infoString rfl .i64 .i64 (cn + 1) (by omega) (by omega)
  have ec : ((cn + 1 : Nat) : Int) = (cn : Int) + 1 := by omega
  rw [ec] at hmk
  have hmin : min ((cn : Int) + 1) ((s.size : Int) + 1) = (cn : Int) + 1 := by omega
  have HI := Lib.hid hI; clear hI ec hN
  go_enter Tryd.func67, Tryd.ntmps67
  go_wp2_with (go_at_call 56; refine hC.mono ?_; rintro e w' ⟨rfl, hw⟩; rw [hw])
  clear hmk hC hmin
  go_loopg [0, 10] cn (fun g s0 s10 wr => ∃ (done : List ByteArray) (rest : ByteArray), s0 = .string rest ∧ s10 = .int .i64 done.length ∧ done.length ≤ cn ∧ g = cn - done.length ∧ rest.size ≤ s.size ∧
      wr = w.alloc (.cells (Lib.cellsOf done (cn + 1)) 9) ∧ done ++ Lib.splitB ⟨#[c]⟩ 0 (cn - done.length) rest = Lib.splitB ⟨#[c]⟩ 0 cn s)
  case atStart => exact ⟨[], s, rfl, rfl, Nat.zero_le _, rfl, Nat.le_refl _, by rw [Lib.cellsOf_nil], rfl⟩
  case round =>
    obtain ⟨done, rest, rfl, rfl, hd, rfl, hrs, rfl, hsp⟩ := hrel
    have hnext : (Lib.cellsOf done (cn + 1))[done.length]? = some (.string ByteArray.empty) := Lib.cellsOf_next (by omega)
    have HS := Lib.hid hsp
    clear hsp
    have fin : Lib.splitB ⟨#[c]⟩ 0 (cn - done.length) rest = [rest] → (Lib.splitB ⟨#[c]⟩ 0 cn s).length = done.length + 1 ∧ (Lib.cellsOf done (cn + 1)).setIfInBounds done.length (.string rest) = Lib.cellsOf (Lib.splitB ⟨#[c]⟩ 0 cn s) (cn + 1) := fun h => by
      have e := HS.out
      rw [h] at e
      rw [← e]
      exact ⟨by simp, Lib.cellsOf_set (by omega) rest⟩
    by_cases hlt : done.length < cn
    · rcases Lib.indexB_cases rest ⟨#[c]⟩ with hix | ⟨i, hix, hroom⟩
      · have HF := Lib.hid fin; have HX := Lib.hid hix
        clear fin hix
        go_wp2_with (first | (go_at_call 62; refine (HI.out rest _).mono ?_; rintro e w' ⟨rfl, hw⟩; rw [hw, HX.out]))
        go_ret
        obtain ⟨f1, f2⟩ := HF.out (Lib.splitB_miss ⟨#[c]⟩ 0 _ rest HX.out)
        rw [f1, ← f2]
        exact ⟨by first | rfl | (congr 2 <;> omega), rfl⟩
      · have HF := Lib.hid fin; have HX := Lib.hid hix
        clear fin hix
        have hroom' : i + 1 ≤ rest.size := hroom
        clear hroom
        have c0 : ¬ ((i : Int) < 0) := by omega
        go_wp2_with (first | (go_at_call 62; refine (HI.out rest _).mono ?_; rintro e w' ⟨rfl, hw⟩; rw [hw, HX.out]))
        go_roundg (cn - (done.length + 1))
        case measure => omega
        case rel =>
          refine ⟨done ++ [rest.extract 0 (i + 0)], rest.extract (i + 1) rest.size, rfl, by simp, by simp; omega, by simp, by rw [ByteArray.size_extract]; omega, by rw [← Lib.cellsOf_set (by omega)]; rfl, ?_⟩
          have h := Lib.splitB_hit ⟨#[c]⟩ 0 (cn - (done.length + 1)) rest i HX.out
          rw [← HS.out, show cn - done.length = (cn - (done.length + 1)) + 1 by omega, h]
          simp
          rfl
    · have hltz : ¬ (((done.length : Nat) : Int) < (cn : Int)) := by omega
      have HF := Lib.hid fin
      clear fin
      go_wp2
      go_ret
      obtain ⟨f1, f2⟩ := HF.out (by rw [show cn - done.length = 0 by omega]; rfl)
      rw [f1, ← f2]
      exact ⟨by first | rfl | (congr 2 <;> omega), rfl⟩

set_option maxHeartbeats 1000000 in
theorem split_one (s : ByteArray) (c : UInt8) (w : World) (hs : s.size ≤ 4611686018427387904) (hcnt : s.data.toList.count c ≤ 1000000) :
    Calls Tryd.prog 57 #[.string s, .string ⟨#[c]⟩] w fun e w' =>
      e = .returned (.slice (some ⟨w.heap.size, 0, none⟩) (s.data.toList.count c + 1) (s.data.toList.count c + 1)) ∧ w' = w.alloc (.cells ((Lib.splitB ⟨#[c]⟩ 0 (s.data.toList.count c) s).map Value.string).toArray 9) := by
  have hlen := Lib.splitB_all ⟨#[c]⟩ (Nat.le_refl 1) 0 (s.data.toList.count c) s (Lib.count_one c s.data.toList)
  have hc := genSplit_one s c w hs hcnt
  have e2 : Lib.cellsOf (Lib.splitB ⟨#[c]⟩ 0 (s.data.toList.count c) s) (s.data.toList.count c + 1) = ((Lib.splitB ⟨#[c]⟩ 0 (s.data.toList.count c) s).map Value.string).toArray := by rw [← hlen]; exact Lib.cellsOf_full _
  rw [e2, hlen] at hc
  clear e2 hlen
  generalize s.data.toList.count c = cn at *
  have HC := Lib.hid hc; clear hc
  go_enter Tryd.func57, Tryd.ntmps57
  go_wp2_with fail
  refine HC.out.mono ?_
  rintro e w' ⟨rfl, hw⟩
  rw [hw]
  go_wp2
  go_ret
  exact ⟨rfl, rfl⟩
end Go.Proofs.YtkdkifciajfpnaaDoor.Nm
/-
  The contract of Split: at every text.
-/
namespace Go.Proofs.YtkdkifciajfpnaaDoor.Nm
open Go.RowKit

theorem bsz {w w1 : World} {o : Obj} (h : Below (w.heap.size + 1) (w.alloc o) w1) : w.heap.size + 1 ≤ w1.heap.size := by
  have := h.size
  simpa using this

/-- A text as a value. -/
def sv (l : List UInt8) : Value := .string ⟨l.toArray⟩
theorem sv_data (s : ByteArray) : sv s.data.toList = .string s := by rw [sv, Lib.mk_data]

def splitE (p : List UInt8) : Int := if (splitP p).isSome then 0 else 10
def splitL (p : List UInt8) : List (List UInt8) := (splitP p).getD []

theorem splitP_no1 {p : List UInt8} (h0 : p ≠ [47]) (h : Lib.hasPrefix p [47] = false) : splitP p = none := by
  rw [splitP, if_neg h0, h]; rfl
theorem splitP_no2 {p : List UInt8} (h0 : p ≠ [47]) (h : ¬ p.count 47 ≤ 16) : splitP p = none := by
  rw [splitP, if_neg h0, if_neg]; simp; omega
theorem splitP_no3 {p : List UInt8} {n : List UInt8} (h0 : p ≠ [47]) (h : n ∈ parts (p.drop 1)) (hc : chk n = false) : splitP p = none := by
  rw [splitP, if_neg h0, if_neg]
  intro hh
  simp only [Bool.and_eq_true, List.all_eq_true] at hh
  have := hh.2 n h
  rw [hc] at this; cases this
theorem splitP_yes {p : List UInt8} (h0 : p ≠ [47]) (h1 : Lib.hasPrefix p [47] = true) (h2 : p.count 47 ≤ 16) (h3 : (parts (p.drop 1)).all chk = true) : splitP p = some (parts (p.drop 1)) := by
  rw [splitP, if_neg h0, if_pos]; simp only [h1, h3, Bool.true_and, Bool.and_true]; simpa using h2

/-- What Split answers, and how its list lies in memory. -/
def SplitPost (p : List UInt8) (w : World) (e : Ending) (w' : World) : Prop :=
  ∃ v, e = .returned (.tuple #[v, .int .i64 (splitE p)]) ∧ w'.ownsRow w.heap.size 9 1 v (splitL p).length ((splitL p).map sv) ∧ Below w.heap.size w w'

theorem splitPost_no {p : List UInt8} {w w' : World} {e : Ending} (h : splitP p = none) (he : e = .returned (.tuple #[.slice none 0 0, .int .i64 10])) (hb : Below w.heap.size w w') : SplitPost p w e w' := by
  refine ⟨.slice none 0 0, ?_, ?_, hb⟩
  · rw [he, splitE, h]; rfl
  · rw [splitL, h]; exact ⟨rfl, .inl ⟨rfl, rfl⟩⟩

theorem size_of_prefix {p : ByteArray} (h : Lib.hasPrefix p.data.toList [47] = true) : 1 ≤ p.size := by
  obtain ⟨t, e⟩ := (hasPrefix_one _).1 h
  rw [Lib.size_eq, e]; simp

set_option maxHeartbeats 1000000 in
set_option maxRecDepth 100000 in
theorem split_any (p : ByteArray) (w : World) (hs : p.size ≤ 4611686018427387904) :
    Calls Tryd.prog 43 #[.string p] w (SplitPost p.data.toList w) := by
  have hhp := fun w => Tryd.strings_HasPrefix p ⟨#[47]⟩ w
  have hcn := fun w => Tryd.strings_Count_one p 47 w
  unfold Lib.countByte at hcn
  have e47 : (⟨#[47]⟩ : ByteArray).data.toList = [47] := rfl
  rw [e47] at hhp
  by_cases h0 : p.data.toList = [47]
  · have h0' : (p.toList == [47]) = true := by rw [Lib.toList_data]; simpa using h0
    have hend : ∀ w', Below w.heap.size w w' → SplitPost p.data.toList w (.returned (.tuple #[.slice none 0 0, .int .i64 0])) w' := by
      intro w' hb
      have hp : splitP p.data.toList = some [] := by rw [splitP, if_pos h0]
      refine ⟨.slice none 0 0, by rw [splitE, hp]; rfl, ?_, hb⟩
      rw [splitL, hp]; exact ⟨rfl, .inl ⟨rfl, rfl⟩⟩
    have HE := Lib.hid hend
    clear hhp hcn h0 hend
    go_enter Tryd.func43, Tryd.ntmps43
    go_wp2
    go_ret2
    exact HE.out _ (Below.refl _ _)
  · have h0' : (p.toList == [47]) = false := by rw [Lib.toList_data]; simpa using h0
    cases h1 : Lib.hasPrefix p.data.toList [47] with
    | false =>
      have HN := Lib.hid (splitP_no1 h0 h1)
      rw [h1] at hhp
      have HP := Lib.hid hhp
      clear hhp hcn h0 h1
      go_enter Tryd.func43, Tryd.ntmps43
      go_wp2_with fail
      refine (HP.out _).mono ?_
      rintro e w1 ⟨rfl, rfl⟩
      go_wp2
      go_ret2
      exact splitPost_no HN.out rfl (Below.refl _ _)
    | true =>
      rw [h1] at hhp
      have HP := Lib.hid hhp
      by_cases h2 : p.data.toList.count 47 ≤ 16
      · have hsz := size_of_prefix h1
        have hx : (p.extract 1 p.size).data.toList = p.data.toList.drop 1 := by
          rw [Lib.extract_data]; exact List.take_of_length_le (by rw [List.length_drop, Lib.size_eq]; omega)
        have hgs := fun w => split_one (p.extract 1 p.size) 47 w (by rw [ByteArray.size_extract]; omega) (by rw [hx]; have := List.Sublist.count_le (47 : UInt8) (List.drop_sublist 1 p.data.toList); omega)
        rw [hx] at hgs
        have hgp : (Lib.splitB ⟨#[47]⟩ 0 ((p.data.toList.drop 1).count 47) (p.extract 1 p.size)).map (·.data.toList) = parts (p.data.toList.drop 1) := by
          have := splitB_parts (p.extract 1 p.size); rw [hx] at this; exact this
        have hyes := splitP_yes h0 h1 h2
        have hno := fun n => splitP_no3 (n := n) h0
        have hpl := parts_count (p.data.toList.drop 1)
        have hcl : (p.data.toList.drop 1).count 47 ≤ 16 := by have := List.Sublist.count_le (47 : UInt8) (List.drop_sublist 1 p.data.toList); omega
        have hmem : ∀ b ∈ Lib.splitB ⟨#[47]⟩ 0 ((p.data.toList.drop 1).count 47) (p.extract 1 p.size), b.size ≤ p.size := by
          intro b hb
          have := parts_le (p.data.toList.drop 1) b.data.toList (by rw [← hgp]; exact List.mem_map_of_mem hb)
          rw [List.length_drop, ← Lib.size_eq, ← Lib.size_eq] at this; omega
        generalize (p.data.toList.drop 1).count 47 = N at *
        generalize Lib.splitB ⟨#[47]⟩ 0 N (p.extract 1 p.size) = bs at *
        generalize parts (p.data.toList.drop 1) = ps at *
        generalize p.data.toList.count 47 = n at *
        have HC := Lib.hid hcn
        have HG := Lib.hid hgs
        have HQ := Lib.hid hgp
        have HY := Lib.hid hyes
        have HO := Lib.hid hno
        have HL := Lib.hid hpl
        have HM := Lib.hid hmem
        clear hhp hcn h0 h1 hx hgs hgp hyes hno hpl hmem
        go_enter Tryd.func43, Tryd.ntmps43
        go_wp2_with fail
        refine (HP.out _).mono ?_
        rintro e w1 ⟨rfl, rfl⟩
        go_wp2_with fail
        refine (HC.out _).mono ?_
        rintro e w2 ⟨rfl, rfl⟩
        go_wp2_with fail
        refine (HG.out _).mono ?_
        rintro e w3 ⟨rfl, rfl⟩
        go_wp2_with fail
        have hlen : bs.length = N + 1 := by rw [← HL.out, ← HQ.out, List.length_map]
        have HLN := Lib.hid hlen
        clear hlen
        go_loopw [23] (fun s23 wr => ∃ k : Nat, k ≤ N + 1 ∧ s23 = .int .i64 k ∧ (∀ j b, j < k → bs[j]? = some b → chk b.data.toList = true) ∧ Below (w2.heap.size + 1) (w2.alloc (.cells (bs.map Value.string).toArray 9)) wr) (fun s23 _ => N + 1 - (intOf s23).toNat)
        case atStart => exact ⟨0, by omega, rfl, fun j b h => by omega, Below.refl _ _⟩
        case round =>
          obtain ⟨k, hk, rfl, hall, hbw⟩ := hrel
          have hcell : ∀ j b, bs[j]? = some b → wr.cell? ⟨w2.heap.size, j, none⟩ = some (.string b) := by
            intro j b hj
            rw [hbw.cell (p := ⟨w2.heap.size, j, none⟩) (by simp), World.cell?_alloc_mark]
            simp [hj]
          have HCL := Lib.hid hcell
          have HA := Lib.hid hall
          clear hall hcell
          by_cases hlt : k < N + 1
          · obtain ⟨b, hkb⟩ : ∃ b, bs[k]? = some b := ⟨bs[k]'(by rw [HLN.out]; exact hlt), List.getElem?_eq_getElem _⟩
            have hc1 := HCL.out k b hkb
            have hbs : b.size ≤ p.size := HM.out b (List.mem_of_getElem? hkb)
            have hmp : b.data.toList ∈ ps := by rw [← HQ.out]; exact List.mem_map_of_mem (List.mem_of_getElem? hkb)
            have hch := check_any b wr (by unfold maxLen; omega)
            have HKB := Lib.hid hkb
            have HMP := Lib.hid hmp
            clear hkb hmp
            cases hcb : chk b.data.toList with
            | false =>
              have e1 : chkN b.data.toList = 10 := by rw [chkN, hcb]; rfl
              rw [e1] at hch
              have HN := Lib.hid (HO.out _ HMP.out hcb)
              have HCH := Lib.hid hch
              clear e1 hcb hch
              go_wp2_with fail
              refine HCH.out.mono ?_
              rintro e w3 ⟨rfl, hb3⟩
              go_wp2
              go_ret2
              exact splitPost_no HN.out rfl (((Below.refl _ _).alloc (Nat.le_refl _) _).trans (Below.mono (hbw.trans (hb3.mono (bsz hbw))) (Nat.le_succ _)))
            | true =>
              have e1 : chkN b.data.toList = 0 := by rw [chkN, hcb]; rfl
              rw [e1] at hch
              have HCB := Lib.hid hcb
              have HCH := Lib.hid hch
              clear e1 hcb hch
              go_wp2_with fail
              refine HCH.out.mono ?_
              rintro e w3 ⟨rfl, hb3⟩
              go_wp2
              go_roundw
              case rel =>
                refine ⟨k + 1, by omega, by go_num, ?_, hbw.trans (hb3.mono (bsz hbw))⟩
                intro j b' hj hjb
                by_cases e : j = k
                · subst e; rw [HKB.out] at hjb; cases hjb; exact HCB.out
                · exact HA.out j b' (by omega) hjb
              case measure => simp [intOf]; omega
          · have hkn : k = N + 1 := by omega
            have hfin : splitP p.data.toList = some ps := HY.out (by
              rw [← HQ.out, List.all_eq_true]
              intro x hx
              obtain ⟨b, hb, rfl⟩ := List.mem_map.1 hx
              obtain ⟨j, hj, e⟩ := List.getElem_of_mem hb
              exact HA.out j b (by rw [HLN.out] at hj; omega) (by rw [List.getElem?_eq_getElem hj, e]))
            have HF := Lib.hid hfin
            clear hfin
            go_wp2
            go_ret2
            refine ⟨.slice (some ⟨w2.heap.size, 0, none⟩) (N + 1) (N + 1), by rw [splitE, HF.out]; rfl, ?_, ((Below.refl _ _).alloc (Nat.le_refl _) _).trans (hbw.mono (Nat.le_succ _))⟩
            rw [splitL, HF.out]
            refine ⟨by simp, .inr ⟨w2.heap.size, N + 1, (bs.map Value.string).toArray, by rw [Option.getD_some, HL.out], Nat.le_refl _, ?_, by rw [Option.getD_some, HL.out]; exact Nat.le_refl _, by unfold maxLen; omega, by simp [HLN.out], ?_⟩⟩
            · rw [hbw.block _ (by omega)]
              show (w2.heap.push _)[w2.heap.size]? = _
              simp
            · rw [Option.getD_some, HL.out, ← HQ.out]
              rw [List.take_of_length_le (by simp [HLN.out]), List.map_map]
              simp only [List.map_inj_left]
              intro x _
              exact (sv_data x).symm
      · have HN := Lib.hid (splitP_no2 h0 h2)
        generalize p.data.toList.count 47 = n at *
        have HC := Lib.hid hcn
        have h2' : 16 < n := by omega
        clear hhp hcn h0 h1 h2
        go_enter Tryd.func43, Tryd.ntmps43
        go_wp2_with fail
        refine (HP.out _).mono ?_
        rintro e w1 ⟨rfl, rfl⟩
        go_wp2_with fail
        refine (HC.out _).mono ?_
        rintro e w2 ⟨rfl, rfl⟩
        go_wp2
        go_ret2
        exact splitPost_no HN.out rfl (Below.refl _ _)
end Go.Proofs.YtkdkifciajfpnaaDoor.Nm
