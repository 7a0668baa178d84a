/-
  The contracts of the statements' own 'same' and 'awake'.
-/
import Derived.Test.YtofdhhemdoodaaaDoorNmUnder
import Derived.Test.YtofdhhemdoodaaaDoorNmMatch
namespace Go.Proofs.YtofdhhemdoodaaaDoor.Nm
open Go.RowKit

theorem sv_inj {x y : List UInt8} (h : sv x = sv y) : x = y := by
  unfold sv at h; injection h with h; injection h with h; simpa using h

def SamePost (xs ys : List (List UInt8)) (w : World) (e : Ending) (w' : World) : Prop :=
  e = .returned (.bool (xs == ys)) ∧ Below w.heap.size w w'

set_option maxHeartbeats 1000000 in
set_option maxRecDepth 100000 in
theorem same_any (u v : Value) (xs ys : List (List UInt8)) (w : World) (hu : StrsAt w u xs) (hv : StrsAt w v ys) :
    Calls Tryd.prog 19 #[u, v] w (SamePost xs ys w) := by
  obtain ⟨a, ca, rfl, ham, ha⟩ := hu
  obtain ⟨b, cb, rfl, hbm, hb⟩ := hv
  unfold maxLen at ham hbm
  by_cases hl : xs.length = ys.length
  · have hl' : (((xs.length : Nat) : Int) != (ys.length : Nat)) = false := by simp; omega
    have HL := Lib.hid hl
    have HA := Lib.hid ha
    have HB := Lib.hid hb
    clear ha hb hl
    go_enter Tryd.func19, Tryd.ntmps19
    go_wp2
    go_loopw [5] (fun s5 wr => ∃ k : Nat, k ≤ xs.length ∧ s5 = .int .i64 k ∧ (∀ j : Nat, j < k → xs[j]? = ys[j]?) ∧ Below w.heap.size w wr) (fun s5 _ => xs.length - (intOf s5).toNat)
    case atStart => exact ⟨0, by omega, rfl, fun j h => by omega, Below.refl _ _⟩
    case round =>
      obtain ⟨k, hk, rfl, hall, hbw⟩ := hrel
      have HK := Lib.hid hall
      clear hall
      by_cases hlt : k < xs.length
      · have hlt2 : k < ys.length := by have := HL.out; omega
        obtain ⟨x, hx⟩ : ∃ x, xs[k]? = some x := ⟨xs[k], List.getElem?_eq_getElem hlt⟩
        obtain ⟨y, hy⟩ : ∃ y, ys[k]? = some y := ⟨ys[k], List.getElem?_eq_getElem hlt2⟩
        obtain ⟨ba, oa, rfl, hba, hca⟩ := HA.out (List.ne_nil_of_mem (List.mem_of_getElem? hx))
        obtain ⟨bb, ob, rfl, hbb, hcb⟩ := HB.out (List.ne_nil_of_mem (List.mem_of_getElem? hy))
        have c1 : wr.cell? ⟨ba, oa + k, none⟩ = some (sv x) := by rw [hbw.cell (p := ⟨ba, oa + k, none⟩) hba]; exact hca k x hx
        have c2 : wr.cell? ⟨bb, ob + k, none⟩ = some (sv y) := by rw [hbw.cell (p := ⟨bb, ob + k, none⟩) hbb]; exact hcb k y hy
        have HX := Lib.hid hx; have HY := Lib.hid hy
        clear hx hy hca hcb
        unfold sv at c1 c2
        by_cases hxy : x = y
        · subst hxy
          go_wp2
          go_quiet (fail)
          go_wp2
          go_roundw
          case rel =>
            refine ⟨k + 1, by omega, by go_num, fun j hj => ?_, below_drewN hbw _⟩
            by_cases e : j = k
            · subst e; rw [HX.out, HY.out]
            · exact HK.out j (by omega)
          case measure => simp [intOf]; omega
        · have hne : (x == y) = false := by simpa using hxy
          have HF : Hid ((xs == ys) = false) := Lib.hid (by
            rw [beq_eq_false_iff_ne]; intro e; subst e; rw [HX.out] at HY; have := HY.out; cases this; exact hxy rfl)
          clear hxy
          go_wp2
          go_quiet (fail)
          go_wp2
          go_ret
          exact ⟨by rw [HF.out]; rfl, below_drewN hbw _⟩
      · have HF : Hid ((xs == ys) = true) := Lib.hid (by
          rw [beq_iff_eq]; apply List.ext_getElem?; intro j
          by_cases hj : j < k
          · exact HK.out j hj
          · have := HL.out
            rw [List.getElem?_eq_none (by omega), List.getElem?_eq_none (by omega)])
        go_wp2
        go_ret
        exact ⟨by rw [HF.out]; rfl, hbw⟩
  · have hl' : (((xs.length : Nat) : Int) != (ys.length : Nat)) = true := by simp; omega
    have HF : Hid ((xs == ys) = false) := Lib.hid (by rw [beq_eq_false_iff_ne]; intro e; exact hl (by rw [e]))
    clear ha hb hl
    go_enter Tryd.func19, Tryd.ntmps19
    go_wp2
    go_ret
    exact ⟨by rw [HF.out]; rfl, Below.refl _ _⟩

theorem split_ab : splitP [47, 97, 47, 98] = some [[97], [98]] := by decide +kernel
theorem match_ab : matchR [97, 63, 42] [97, 195, 169] = (true, 0) := by
  have h1 : okB [97, 63, 42] = true := by decide +kernel
  have h2 : chk [97, 195, 169] = true := by decide +kernel
  have h3 : runes [97, 63, 42] = [97, 63, 42] := by decide +kernel
  have h4 : runes [97, 195, 169] = [97, 233] := by decide +kernel
  rw [matchR, h1, h2, h3, h4]
  simp [like]

set_option maxHeartbeats 1000000 in
set_option maxRecDepth 100000 in
theorem awake_any (w : World) : Calls Tryd.prog 10 #[] w fun e w' => e = .returned (.bool true) ∧ Below w.heap.size w w' := by
  have h1 := split_any ⟨#[47, 97, 47, 98]⟩ w (by decide)
  have h2 := fun w => match_any ⟨#[97, 63, 42]⟩ ⟨#[97, 195, 169]⟩ w (by decide) (by decide)
  have e2 : matchR (⟨#[97, 63, 42]⟩ : ByteArray).data.toList (⟨#[97, 195, 169]⟩ : ByteArray).data.toList = (true, 0) := match_ab
  have e1 : splitE (⟨#[47, 97, 47, 98]⟩ : ByteArray).data.toList = 0 := by rw [splitE]; show (if (splitP [47, 97, 47, 98]).isSome = true then _ else _) = _; rw [split_ab]; rfl
  have e3 : splitL (⟨#[47, 97, 47, 98]⟩ : ByteArray).data.toList = [[97], [98]] := by rw [splitL]; show (splitP [47, 97, 47, 98]).getD [] = _; rw [split_ab]; rfl
  unfold SplitPost at h1
  rw [e1, e3] at h1
  rw [e2] at h2
  have H2 := Lib.hid h2
  clear h2 e1 e2 e3
  go_enter Tryd.func10, Tryd.ntmps10
  go_wp2_with fail
  refine h1.mono ?_
  rintro e w1 ⟨v1, rfl, ho1, hb1⟩
  have hst := StrsAt.of_owns ho1
  clear ho1 h1
  go_wp2_with fail
  refine (H2.out _).mono ?_
  rintro e w2 ⟨rfl, hb2⟩
  have hst2 := hst.below hb2
  clear hst
  go_wp2_with fail
  have hst3 := hst2.below ((Below.refl w2.heap.size w2).alloc (Nat.le_refl _) (Obj.cells #[.string ⟨#[97]⟩, .string ⟨#[98]⟩] 9))
  have hst4 : StrsAt (w2.alloc (Obj.cells #[.string ⟨#[97]⟩, .string ⟨#[98]⟩] 9)) (.slice (some ⟨w2.heap.size, 0, none⟩) 2 2) [[97], [98]] := by
    refine ⟨_, 2, rfl, by decide, fun _ => ⟨w2.heap.size, 0, rfl, by simp, fun j x hj => ?_⟩⟩
    rw [World.cell?_alloc_mark, Nat.zero_add]
    match j, hj with
    | 0, hj => cases hj; rfl
    | 1, hj => cases hj; rfl
  refine (same_any _ _ _ _ _ hst3 hst4).mono ?_
  rintro e w3 ⟨rfl, hb3⟩
  go_wp2
  go_ret
  exact ⟨rfl, ((hb1.trans (hb2.mono hb1.size)).alloc (by have := hb1.size; have := hb2.size; omega) _).trans (hb3.mono (by have := hb1.size; have := hb2.size; simp; omega))⟩
end Go.Proofs.YtofdhhemdoodaaaDoor.Nm
