import Derived.Test.YtkdkifciajfpnaaDoorZPSrCheck
import Derived.WalkLawsBesides
set_option linter.unusedSimpArgs false
set_option linter.unusedVariables false
/-
  The contract of seat.
-/
namespace Go.Proofs.YtkdkifciajfpnaaDoor.Sr
open Go.RowKit Go.Maps Go.WideMaps Go.Proofs.YtkdkifciajfpnaaDoor.Rf Go.Proofs.YtkdkifciajfpnaaDoor.Nm Go.Proofs.YtkdkifciajfpnaaDoor.St

/-- Where an extended attribute stands, or would; is it there? -/
def seatN (s : List UInt8) : Xs → Nat
  | [] => 0
  | x :: r => if lt x.1 s then seatN s r + 1 else 0
def seatB (s : List UInt8) : Xs → Bool
  | [] => false
  | x :: r => if lt x.1 s then seatB s r else decide (x.1 = s)
theorem seatN_le (s : List UInt8) : ∀ xs : Xs, seatN s xs ≤ xs.length
  | [] => Nat.le_refl _
  | x :: r => by
    rw [seatN]; split
    · have := seatN_le s r; rw [List.length_cons]; omega
    · omega
theorem seatB_lt {s : List UInt8} : ∀ {xs : Xs}, seatB s xs = true → seatN s xs < xs.length
  | [], h => by cases h
  | x :: r, h => by
    rw [seatB] at h
    rw [seatN]
    split at h
    · next hl => rw [if_pos hl]; have := seatB_lt h; rw [List.length_cons]; omega
    · next hl => rw [if_neg hl]; simp
set_option linter.unusedSimpArgs false in
set_option maxHeartbeats 8000000 in
set_option maxRecDepth 100000 in
theorem seat_any (w : World) (xs : Xs) (v : Value) (s : List UInt8) (h : XsAt w v xs) :
    Calls Tryd.prog 36 #[v, .string ⟨s.toArray⟩] w fun e w' => e = .returned (.tuple #[.int .i64 (seatN s xs : Int), .bool (seatB s xs)]) ∧ Below w.heap.size w w' := by
  obtain ⟨va, vc, rfl, hxm, hxl, hxc⟩ := h
  have HXL := Lib.hid hxl; have HXC := Lib.hid hxc
  unfold maxLen at hxm
  have HN : Hid (seatN s xs = 0 + seatN s (xs.drop 0)) := Lib.hid (by simp)
  have HSB : Hid (seatB s xs = seatB s (xs.drop 0)) := Lib.hid (by simp)
  obtain ⟨rn, hrn⟩ : ∃ rn, rn = seatN s xs := ⟨_, rfl⟩
  obtain ⟨rb, hrb⟩ : ∃ rb, rb = seatB s xs := ⟨_, rfl⟩
  rw [← hrn] at HN ⊢
  rw [← hrb] at HSB ⊢
  clear hxl hxc hrn hrb
  go_enter Tryd.func36, Tryd.ntmps36
  go_wp2
  go_loopw [10] (fun v10 wr => ∃ i : Nat, i ≤ xs.length ∧ v10 = .int .i64 (i : Int) ∧ Hid (rn = i + seatN s (xs.drop i)) ∧ Hid (rb = seatB s (xs.drop i)) ∧ Hid (Below w.heap.size w wr)) (fun v10 _ => xs.length - (RowKit.intOf v10).toNat)
  case atStart => exact ⟨0, by omega, rfl, HN, HSB, Lib.hid (Below.refl _ _)⟩
  case round =>
    obtain ⟨i, hi, rfl, HN, HSB, HB⟩ := hrel
    by_cases hil : (i : Int) < (xs.length : Int)
    · have hi2 : i < xs.length := by omega
      obtain ⟨x, hx⟩ : ∃ x, xs[i]? = some x := ⟨_, List.getElem?_eq_getElem hi2⟩
      obtain ⟨b, o, rfl, hb, hcl⟩ := HXC.out (fun h => by rw [h] at hi2; cases hi2)
      obtain ⟨cx1, cx2⟩ := hcl i x hx
      have cy1 := (World.cell?_of_block (a := ⟨b, o + i * 2, none⟩) (HB.out.block b hb)).trans cx1
      have cy2 := (World.cell?_of_block (a := ⟨b, o + i * 2 + 1, none⟩) (HB.out.block b hb)).trans cx2
      have hd : xs.drop i = x :: xs.drop (i + 1) := by
        rw [List.drop_eq_getElem_cons hi2]
        congr 1
        rw [List.getElem?_eq_getElem hi2] at hx; exact Option.some.inj hx
      have HN2 : Hid (rn = i + if lt x.1 s then seatN s (xs.drop (i + 1)) + 1 else 0) := Lib.hid (by rw [HN.out, hd, seatN])
      have HB2 : Hid (rb = if lt x.1 s then seatB s (xs.drop (i + 1)) else decide (x.1 = s)) := Lib.hid (by rw [HSB.out, hd, seatB])
      have HRG : Hid (wr.rangeAt b (o + i * 2) [.string ⟨x.1.toArray⟩, .string ⟨x.2.toArray⟩]) := Lib.hid (by
        intro j u hu
        match j, hu with
        | 0, hu => obtain rfl := Option.some.inj hu; exact cy1
        | 1, hu => obtain rfl := Option.some.inj hu; exact cy2)
      have HI2 := Lib.hid (infoXa1 x)
      have hls := lt_less x.1 s
      clear hcl cx1 cx2 hx cy1 cy2 hd HN HSB
      cases hlt : lt x.1 s with
      | true =>
        rw [hlt] at hls HN2 HB2
        have HN3 : Hid (rn = (i + 1) + seatN s (xs.drop (i + 1))) := Lib.hid (by rw [HN2.out, if_pos rfl]; omega)
        have HB3 : Hid (rb = seatB s (xs.drop (i + 1))) := Lib.hid (by rw [HB2.out, if_pos rfl])
        clear HN2 HB2 hlt
        go_wp2_with (first
          | (refine wpList_load_mid rfl _ _ rfl b (o + i * 2) rfl [.string ⟨x.1.toArray⟩, .string ⟨x.2.toArray⟩] _ HRG.out Tryd.underlying78 rfl HI2.out ?_))
        go_roundw
        case rel => exact ⟨i + 1, by omega, by go_num, HN3, HB3, Lib.hid (HB.out.alloc HB.out.size _)⟩
        case measure => simp [RowKit.intOf]; omega
      | false =>
        rw [hlt] at hls HN2 HB2
        obtain rfl : i = rn := by rw [HN2.out]; simp
        have HRB : Hid (rb = decide (x.1 = s)) := Lib.hid (by rw [HB2.out]; simp)
        have KS : Hid ((wr.alloc (.cells #[.string ⟨x.1.toArray⟩, .string ⟨x.2.toArray⟩] 78)).drew.cell? ⟨wr.heap.size, 0, none⟩ = some (.string ⟨x.1.toArray⟩)) := Lib.hid (cell_of_heap (MapKept.heap_alloc wr (.cells #[.string ⟨x.1.toArray⟩, .string ⟨x.2.toArray⟩] 78)).1)
        clear HN2 HB2 hlt
        go_wp2_with (first
          | (refine wpList_load_mid rfl _ _ rfl b (o + i * 2) rfl [.string ⟨x.1.toArray⟩, .string ⟨x.2.toArray⟩] _ HRG.out Tryd.underlying78 rfl HI2.out ?_))
        refine wp_region_held_drew (S := (fun w' : World => w'.cell? ⟨wr.heap.size, 0, none⟩ = some (.string ⟨x.1.toArray⟩))) (by kernel_rfl) KS.out (fun hHeld => ?_)
        refine wpAnyH_take (i := 0) (v := ?_) rfl (by kernel_rfl) (by kernel_rfl) (by kernel_rfl) (fun _ _ _ h => h) (Or.inl ⟨by rfl, ?sa0⟩) hHeld ?_
        case sa0 =>
          intro wS hSw
          have k0 := hSw
          go_simp
          try with_reducible rfl
        try simp only [Act.put, List.getElem_toArray, List.getElem_cons_zero, List.getElem_cons_succ, List.setIfInBounds_toArray, List.set_cons_zero, List.set_cons_succ]
        refine wpAnyH_take (i := 1) (v := ?_) rfl (by kernel_rfl) (by kernel_rfl) (by kernel_rfl) (fun _ _ _ h => h) (Or.inl ⟨by rfl, ?sa1⟩) hHeld ?_
        case sa1 =>
          intro wS hSw
          have k0 := hSw
          go_simp
          try with_reducible rfl
        try simp only [Act.put, List.getElem_toArray, List.getElem_cons_zero, List.getElem_cons_succ, List.setIfInBounds_toArray, List.set_cons_zero, List.set_cons_succ]
        refine wpAnyH_take (i := 2) (v := ?_) rfl (by kernel_rfl) (by kernel_rfl) (by kernel_rfl) (fun _ _ _ h => h) (Or.inl ⟨by rfl, ?sa2⟩) hHeld ?_
        case sa2 =>
          intro wS hSw
          have k0 := hSw
          go_simp
          try with_reducible rfl
        try simp only [Act.put, List.getElem_toArray, List.getElem_cons_zero, List.getElem_cons_succ, List.setIfInBounds_toArray, List.set_cons_zero, List.set_cons_succ]
        refine wpAnyH_take (i := 3) (v := ?_) rfl (by kernel_rfl) (by kernel_rfl) (by kernel_rfl) (fun _ _ _ h => h) (Or.inl ⟨by rfl, ?sa3⟩) hHeld ?_
        case sa3 =>
          intro wS hSw
          have k0 := hSw
          go_simp
          try with_reducible rfl
        try simp only [Act.put, List.getElem_toArray, List.getElem_cons_zero, List.getElem_cons_succ, List.setIfInBounds_toArray, List.set_cons_zero, List.set_cons_succ]
        refine wpAnyH_take (i := 4) (v := ?_) rfl (by kernel_rfl) (by kernel_rfl) (by kernel_rfl) (fun _ _ _ h => h) (Or.inl ⟨by rfl, ?sa4⟩) hHeld ?_
        case sa4 =>
          intro wS hSw
          have k0 := hSw
          go_simp
          try with_reducible rfl
        try simp only [Act.put, List.getElem_toArray, List.getElem_cons_zero, List.getElem_cons_succ, List.setIfInBounds_toArray, List.set_cons_zero, List.set_cons_succ]
        refine wpAnyH_take (i := 5) (v := ?_) rfl (by kernel_rfl) (by kernel_rfl) (by kernel_rfl) (fun _ _ _ h => h) (Or.inl ⟨by rfl, ?sa5⟩) hHeld ?_
        case sa5 =>
          intro wS hSw
          have k0 := hSw
          go_simp
          try with_reducible rfl
        try simp only [Act.put, List.getElem_toArray, List.getElem_cons_zero, List.getElem_cons_succ, List.setIfInBounds_toArray, List.set_cons_zero, List.set_cons_succ]
        refine wpAnyH_take (i := 6) (v := ?_) rfl (by kernel_rfl) (by kernel_rfl) (by kernel_rfl) (fun _ _ _ h => h) (Or.inl ⟨by rfl, ?sa6⟩) hHeld ?_
        case sa6 =>
          intro wS hSw
          have k0 := hSw
          go_simp
          try with_reducible rfl
        try simp only [Act.put, List.getElem_toArray, List.getElem_cons_zero, List.getElem_cons_succ, List.setIfInBounds_toArray, List.set_cons_zero, List.set_cons_succ]
        refine wpAnyH_done (by kernel_rfl) ?_ _
        clear hHeld
        try simp only [Act.put, List.getElem_toArray, List.getElem_cons_zero, List.getElem_cons_succ, List.setIfInBounds_toArray, List.set_cons_zero, List.set_cons_succ]
        go_wp2
        go_ret2
        have hbe : decide (x.1 = s) = (x.1 == s) := by rw [Bool.eq_iff_iff]; simp
        exact ⟨by rw [HRB.out, hbe]; rfl, (HB.out.alloc HB.out.size _).drew⟩
    · obtain rfl : i = xs.length := by omega
      have hrn : rn = xs.length := by rw [HN.out, List.drop_length]; rfl
      have hrb : rb = false := by rw [HSB.out, List.drop_length]; rfl
      clear HN HSB
      subst hrn hrb
      go_wp2
      go_ret2
      exact ⟨rfl, HB.out⟩
end Go.Proofs.YtkdkifciajfpnaaDoor.Sr
