import Derived.Test.YthcjjekkjbidlaaDoorZPSrNew
set_option linter.unusedSimpArgs false
set_option linter.unusedVariables false
/-
  The contracts of slices.Equal at extended attributes, of attrs.Same, of the statements' same and texts, where the two are equal.
-/
namespace Go.Proofs.YthcjjekkjbidlaaDoor.Sr
open Go.RowKit Go.Maps Go.WideMaps Go.Proofs.YthcjjekkjbidlaaDoor.Rf Go.Proofs.YthcjjekkjbidlaaDoor.Nm Go.Proofs.YthcjjekkjbidlaaDoor.St

set_option linter.unusedSimpArgs false in
set_option maxHeartbeats 8000000 in
set_option maxRecDepth 100000 in
theorem xeq_any (w : World) (xs : Xs) (v u : Value) (hv : XsAt w v xs) (hu : XsAt w u xs) :
    Calls Tryd.prog 74 #[v, u] w fun e w' => e = .returned (.bool true) ∧ Below w.heap.size w w' := by
  obtain ⟨va, vc, rfl, hxm, _, hxc⟩ := hv
  obtain ⟨ua, uc, rfl, _, _, hyc⟩ := hu
  have HXC := Lib.hid hxc; have HYC := Lib.hid hyc
  unfold maxLen at hxm
  clear hxc hyc
  go_enter Tryd.func74, Tryd.ntmps74
  go_wp2
  go_loopw [13] (fun v13 wr => ∃ i : Nat, i ≤ xs.length ∧ v13 = .int .i64 (i : Int) ∧ Hid (Below w.heap.size w wr)) (fun v13 _ => xs.length - (RowKit.intOf v13).toNat)
  case atStart => exact ⟨0, by omega, rfl, Lib.hid (Below.refl _ _)⟩
  case round =>
    obtain ⟨i, hi, rfl, HB⟩ := hrel
    by_cases hil : (i : Int) < (xs.length : Int)
    · have hi2 : i < xs.length := by omega
      obtain ⟨x, hx⟩ : ∃ x, xs[i]? = some x := ⟨_, List.getElem?_eq_getElem hi2⟩
      obtain ⟨b, o, rfl, hb, hcl⟩ := HXC.out (fun h => by rw [h] at hi2; cases hi2)
      obtain ⟨b2, o2, rfl, hb2, hcl2⟩ := HYC.out (fun h => by rw [h] at hi2; cases hi2)
      have KS : Hid (∀ w', Below w.heap.size w w' → w'.rangeAt b (o + i * 2) [.string ⟨x.1.toArray⟩, .string ⟨x.2.toArray⟩] ∧ w'.rangeAt b2 (o2 + i * 2) [.string ⟨x.1.toArray⟩, .string ⟨x.2.toArray⟩]) := Lib.hid (fun w' hw => by
        obtain ⟨c1, c2⟩ := hcl i x hx
        obtain ⟨d1, d2⟩ := hcl2 i x hx
        have e1 := (World.cell?_of_block (a := ⟨b, o + i * 2, none⟩) (hw.block b hb)).trans c1
        have e2 := (World.cell?_of_block (a := ⟨b, o + i * 2 + 1, none⟩) (hw.block b hb)).trans c2
        have f1 := (World.cell?_of_block (a := ⟨b2, o2 + i * 2, none⟩) (hw.block b2 hb2)).trans d1
        have f2 := (World.cell?_of_block (a := ⟨b2, o2 + i * 2 + 1, none⟩) (hw.block b2 hb2)).trans d2
        constructor <;> intro j z hz
        · match j, hz with
          | 0, hz => obtain rfl := Option.some.inj hz; exact e1
          | 1, hz => obtain rfl := Option.some.inj hz; exact e2
        · match j, hz with
          | 0, hz => obtain rfl := Option.some.inj hz; exact f1
          | 1, hz => obtain rfl := Option.some.inj hz; exact f2)
      have HI2 := Lib.hid (infoXa1 x)
      have hsth : Tryd.prog.stoodInHeld 131 = false := by kernel_rfl
      clear hcl hcl2 hx
      go_wp2
      refine wp_region_held_drew (S := (fun w' : World => w'.rangeAt b (o + i * 2) [.string ⟨x.1.toArray⟩, .string ⟨x.2.toArray⟩] ∧ w'.rangeAt b2 (o2 + i * 2) [.string ⟨x.1.toArray⟩, .string ⟨x.2.toArray⟩])) (by kernel_rfl) (KS.out _ HB.out.drew) (fun hHeld => ?_)
      refine wpAnyH_take (i := 0) (v := ?_) rfl (by kernel_rfl) (by kernel_rfl) (by kernel_rfl) (fun _ _ _ h => h) (Or.inl ⟨by rfl, ?ra0⟩) hHeld ?_
      case ra0 =>
        intro wS hSw
        obtain ⟨k0, k1⟩ := hSw
        go_simp
        try with_reducible rfl
      try simp only [Act.put, List.getElem_toArray, List.getElem_cons_zero, List.getElem_cons_succ, List.setIfInBounds_toArray, List.set_cons_zero, List.set_cons_succ]
      refine wpAnyH_take (i := 1) (v := ?_) rfl (by kernel_rfl) (by kernel_rfl) (by kernel_rfl) (fun _ _ _ h => h) (Or.inl ⟨by rfl, ?ra1⟩) hHeld ?_
      case ra1 =>
        intro wS hSw
        obtain ⟨k0, k1⟩ := hSw
        go_simp
        try with_reducible rfl
      try simp only [Act.put, List.getElem_toArray, List.getElem_cons_zero, List.getElem_cons_succ, List.setIfInBounds_toArray, List.set_cons_zero, List.set_cons_succ]
      refine wpAnyH_take (i := 2) (v := ?_) rfl (by kernel_rfl) (by kernel_rfl) (by kernel_rfl) (fun _ _ _ h => h) (Or.inl ⟨by rfl, ?ra2⟩) hHeld ?_
      case ra2 =>
        intro wS hSw
        obtain ⟨k0, k1⟩ := hSw
        go_simp
        try with_reducible rfl
      try simp only [Act.put, List.getElem_toArray, List.getElem_cons_zero, List.getElem_cons_succ, List.setIfInBounds_toArray, List.set_cons_zero, List.set_cons_succ]
      refine' wpAnyH_take (i := 3) (v := _) rfl (by kernel_rfl) (by kernel_rfl) (by kernel_rfl) (fun _ _ _ h => h) (yieldsIf_load_mid (by rfl) _ _ rfl b (o + i * 2) rfl [.string ⟨x.1.toArray⟩, .string ⟨x.2.toArray⟩] _ ?ra3S ?ra3u ?ra3d ?ra3i) hHeld ?ra3x
      case ra3S =>
        intro wS hSw
        obtain ⟨k0, k1⟩ := hSw
        exact k0
      case ra3u => exact Tryd.underlying131
      case ra3d => rfl
      case ra3i => exact HI2.out
      try simp only [Act.put, List.getElem_toArray, List.getElem_cons_zero, List.getElem_cons_succ, List.setIfInBounds_toArray, List.set_cons_zero, List.set_cons_succ]
      refine wpAnyH_take (i := 4) (v := ?_) rfl (by kernel_rfl) (by kernel_rfl) (by kernel_rfl) (fun _ _ _ h => h) (Or.inl ⟨by rfl, ?ra4⟩) hHeld ?_
      case ra4 =>
        intro wS hSw
        obtain ⟨k0, k1⟩ := hSw
        go_simp
        try with_reducible rfl
      try simp only [Act.put, List.getElem_toArray, List.getElem_cons_zero, List.getElem_cons_succ, List.setIfInBounds_toArray, List.set_cons_zero, List.set_cons_succ]
      refine wpAnyH_take (i := 5) (v := ?_) rfl (by kernel_rfl) (by kernel_rfl) (by kernel_rfl) (fun _ _ _ h => h) (Or.inl ⟨by rfl, ?ra5⟩) hHeld ?_
      case ra5 =>
        intro wS hSw
        obtain ⟨k0, k1⟩ := hSw
        go_simp
        try with_reducible rfl
      try simp only [Act.put, List.getElem_toArray, List.getElem_cons_zero, List.getElem_cons_succ, List.setIfInBounds_toArray, List.set_cons_zero, List.set_cons_succ]
      refine wpAnyH_take (i := 6) (v := ?_) rfl (by kernel_rfl) (by kernel_rfl) (by kernel_rfl) (fun _ _ _ h => h) (Or.inl ⟨by rfl, ?ra6⟩) hHeld ?_
      case ra6 =>
        intro wS hSw
        obtain ⟨k0, k1⟩ := hSw
        go_simp
        try with_reducible rfl
      try simp only [Act.put, List.getElem_toArray, List.getElem_cons_zero, List.getElem_cons_succ, List.setIfInBounds_toArray, List.set_cons_zero, List.set_cons_succ]
      refine' wpAnyH_take (i := 7) (v := _) rfl (by kernel_rfl) (by kernel_rfl) (by kernel_rfl) (fun _ _ _ h => h) (yieldsIf_load_mid (by rfl) _ _ rfl b2 (o2 + i * 2) rfl [.string ⟨x.1.toArray⟩, .string ⟨x.2.toArray⟩] _ ?ra7S ?ra7u ?ra7d ?ra7i) hHeld ?ra7x
      case ra7S =>
        intro wS hSw
        obtain ⟨k0, k1⟩ := hSw
        exact k1
      case ra7u => exact Tryd.underlying131
      case ra7d => rfl
      case ra7i => exact HI2.out
      try simp only [Act.put, List.getElem_toArray, List.getElem_cons_zero, List.getElem_cons_succ, List.setIfInBounds_toArray, List.set_cons_zero, List.set_cons_succ]
      refine wpAnyH_take (i := 8) (v := ?_) rfl (by kernel_rfl) (by kernel_rfl) (by kernel_rfl) (fun _ _ _ h => h) (Or.inl ⟨by rfl, ?ra8⟩) hHeld ?_
      case ra8 =>
        intro wS hSw
        obtain ⟨k0, k1⟩ := hSw
        go_simp
        try with_reducible rfl
      try simp only [Act.put, List.getElem_toArray, List.getElem_cons_zero, List.getElem_cons_succ, List.setIfInBounds_toArray, List.set_cons_zero, List.set_cons_succ]
      refine wpAnyH_done (by kernel_rfl) ?_ _
      clear hHeld
      try simp only [Act.put, List.getElem_toArray, List.getElem_cons_zero, List.getElem_cons_succ, List.setIfInBounds_toArray, List.set_cons_zero, List.set_cons_succ]
      go_wp2
      go_roundw
      case rel => exact ⟨i + 1, by omega, by go_num, Lib.hid HB.out.drew⟩
      case measure => simp [RowKit.intOf]; omega
    · obtain rfl : i = xs.length := by omega
      go_wp2
      go_ret
      exact ⟨rfl, HB.out⟩

set_option linter.unusedSimpArgs false in
set_option maxHeartbeats 8000000 in
set_option maxRecDepth 100000 in
theorem texts_any (w : World) (l : List (List UInt8)) (v u : Value) (hv : StrsAt w v l) (hu : StrsAt w u l) :
    Calls Tryd.prog 35 #[v, u] w fun e w' => e = .returned (.bool true) ∧ Below w.heap.size w w' := by
  obtain ⟨va, vc, rfl, hxm, _, hxc⟩ := hv
  obtain ⟨ua, uc, rfl, _, _, hyc⟩ := hu
  have HXC := Lib.hid hxc; have HYC := Lib.hid hyc
  unfold maxLen at hxm
  clear hxc hyc
  go_enter Tryd.func35, Tryd.ntmps35
  go_wp2
  go_loopw [5] (fun v5 wr => ∃ i : Nat, i ≤ l.length ∧ v5 = .int .i64 (i : Int) ∧ Hid (Below w.heap.size w wr)) (fun v5 _ => l.length - (RowKit.intOf v5).toNat)
  case atStart => exact ⟨0, by omega, rfl, Lib.hid (Below.refl _ _)⟩
  case round =>
    obtain ⟨i, hi, rfl, HB⟩ := hrel
    by_cases hil : (i : Int) < (l.length : Int)
    · have hi2 : i < l.length := by omega
      obtain ⟨s, hs⟩ : ∃ s, l[i]? = some s := ⟨_, List.getElem?_eq_getElem hi2⟩
      obtain ⟨b, o, rfl, hb, hcl⟩ := HXC.out (fun h => by rw [h] at hi2; cases hi2)
      obtain ⟨b2, o2, rfl, hb2, hcl2⟩ := HYC.out (fun h => by rw [h] at hi2; cases hi2)
      obtain ⟨x, hx⟩ : ∃ x : ByteArray, x = ⟨s.toArray⟩ := ⟨_, rfl⟩
      have KS : Hid (∀ w', Below w.heap.size w w' → w'.cell? ⟨b, o + i, none⟩ = some (.string x) ∧ w'.cell? ⟨b2, o2 + i, none⟩ = some (.string x)) := Lib.hid (fun w' hw => by
        rw [hx]
        exact ⟨(World.cell?_of_block (a := ⟨b, o + i, none⟩) (hw.block b hb)).trans (hcl i s hs), (World.cell?_of_block (a := ⟨b2, o2 + i, none⟩) (hw.block b2 hb2)).trans (hcl2 i s hs)⟩)
      clear hcl hcl2 hs hx
      go_wp2
      refine wp_region_held_drew (S := (fun w' : World => w'.cell? ⟨b, o + i, none⟩ = some (.string x) ∧ w'.cell? ⟨b2, o2 + i, none⟩ = some (.string x))) (by kernel_rfl) (KS.out _ HB.out.drew) (fun hHeld => ?_)
      refine wpAnyH_take (i := 0) (v := ?_) rfl (by kernel_rfl) (by kernel_rfl) (by kernel_rfl) (fun _ _ _ h => h) (Or.inl ⟨by rfl, ?rb0⟩) hHeld ?_
      case rb0 =>
        intro wS hSw
        obtain ⟨k0, k1⟩ := hSw
        go_simp
        try with_reducible rfl
      try simp only [Act.put, List.getElem_toArray, List.getElem_cons_zero, List.getElem_cons_succ, List.setIfInBounds_toArray, List.set_cons_zero, List.set_cons_succ]
      refine wpAnyH_take (i := 1) (v := ?_) rfl (by kernel_rfl) (by kernel_rfl) (by kernel_rfl) (fun _ _ _ h => h) (Or.inl ⟨by rfl, ?rb1⟩) hHeld ?_
      case rb1 =>
        intro wS hSw
        obtain ⟨k0, k1⟩ := hSw
        go_simp
        try with_reducible rfl
      try simp only [Act.put, List.getElem_toArray, List.getElem_cons_zero, List.getElem_cons_succ, List.setIfInBounds_toArray, List.set_cons_zero, List.set_cons_succ]
      refine wpAnyH_take (i := 2) (v := ?_) rfl (by kernel_rfl) (by kernel_rfl) (by kernel_rfl) (fun _ _ _ h => h) (Or.inl ⟨by rfl, ?rb2⟩) hHeld ?_
      case rb2 =>
        intro wS hSw
        obtain ⟨k0, k1⟩ := hSw
        go_simp
        try with_reducible rfl
      try simp only [Act.put, List.getElem_toArray, List.getElem_cons_zero, List.getElem_cons_succ, List.setIfInBounds_toArray, List.set_cons_zero, List.set_cons_succ]
      refine wpAnyH_take (i := 3) (v := ?_) rfl (by kernel_rfl) (by kernel_rfl) (by kernel_rfl) (fun _ _ _ h => h) (Or.inl ⟨by rfl, ?rb3⟩) hHeld ?_
      case rb3 =>
        intro wS hSw
        obtain ⟨k0, k1⟩ := hSw
        go_simp
        try with_reducible rfl
      try simp only [Act.put, List.getElem_toArray, List.getElem_cons_zero, List.getElem_cons_succ, List.setIfInBounds_toArray, List.set_cons_zero, List.set_cons_succ]
      refine wpAnyH_take (i := 4) (v := ?_) rfl (by kernel_rfl) (by kernel_rfl) (by kernel_rfl) (fun _ _ _ h => h) (Or.inl ⟨by rfl, ?rb4⟩) hHeld ?_
      case rb4 =>
        intro wS hSw
        obtain ⟨k0, k1⟩ := hSw
        go_simp
        try with_reducible rfl
      try simp only [Act.put, List.getElem_toArray, List.getElem_cons_zero, List.getElem_cons_succ, List.setIfInBounds_toArray, List.set_cons_zero, List.set_cons_succ]
      refine wpAnyH_take (i := 5) (v := ?_) rfl (by kernel_rfl) (by kernel_rfl) (by kernel_rfl) (fun _ _ _ h => h) (Or.inl ⟨by rfl, ?rb5⟩) hHeld ?_
      case rb5 =>
        intro wS hSw
        obtain ⟨k0, k1⟩ := hSw
        go_simp
        try with_reducible rfl
      try simp only [Act.put, List.getElem_toArray, List.getElem_cons_zero, List.getElem_cons_succ, List.setIfInBounds_toArray, List.set_cons_zero, List.set_cons_succ]
      refine wpAnyH_take (i := 6) (v := ?_) rfl (by kernel_rfl) (by kernel_rfl) (by kernel_rfl) (fun _ _ _ h => h) (Or.inl ⟨by rfl, ?rb6⟩) hHeld ?_
      case rb6 =>
        intro wS hSw
        obtain ⟨k0, k1⟩ := hSw
        go_simp
        try with_reducible rfl
      try simp only [Act.put, List.getElem_toArray, List.getElem_cons_zero, List.getElem_cons_succ, List.setIfInBounds_toArray, List.set_cons_zero, List.set_cons_succ]
      refine wpAnyH_take (i := 7) (v := ?_) rfl (by kernel_rfl) (by kernel_rfl) (by kernel_rfl) (fun _ _ _ h => h) (Or.inl ⟨by rfl, ?rb7⟩) hHeld ?_
      case rb7 =>
        intro wS hSw
        obtain ⟨k0, k1⟩ := hSw
        go_simp
        try with_reducible rfl
      try simp only [Act.put, List.getElem_toArray, List.getElem_cons_zero, List.getElem_cons_succ, List.setIfInBounds_toArray, List.set_cons_zero, List.set_cons_succ]
      refine wpAnyH_take (i := 8) (v := ?_) rfl (by kernel_rfl) (by kernel_rfl) (by kernel_rfl) (fun _ _ _ h => h) (Or.inl ⟨by rfl, ?rb8⟩) hHeld ?_
      case rb8 =>
        intro wS hSw
        obtain ⟨k0, k1⟩ := hSw
        go_simp
        try with_reducible rfl
      try simp only [Act.put, List.getElem_toArray, List.getElem_cons_zero, List.getElem_cons_succ, List.setIfInBounds_toArray, List.set_cons_zero, List.set_cons_succ]
      refine wpAnyH_done (by kernel_rfl) ?_ _
      clear hHeld
      try simp only [Act.put, List.getElem_toArray, List.getElem_cons_zero, List.getElem_cons_succ, List.setIfInBounds_toArray, List.set_cons_zero, List.set_cons_succ]
      go_wp2
      go_roundw
      case rel => exact ⟨i + 1, by omega, by go_num, Lib.hid HB.out.drew⟩
      case measure => simp [RowKit.intOf]; omega
    · obtain rfl : i = l.length := by omega
      go_wp2
      go_ret
      exact ⟨rfl, HB.out⟩
end Go.Proofs.YthcjjekkjbidlaaDoor.Sr
