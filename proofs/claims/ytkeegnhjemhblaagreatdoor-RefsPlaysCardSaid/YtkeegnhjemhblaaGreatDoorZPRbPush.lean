import Derived.Test.YtkeegnhjemhblaaGreatDoorZPRbEnd
import Derived.Test.YtkeegnhjemhblaaGreatDoorZPRbPut
import Derived.Test.YtkeegnhjemhblaaGreatDoorZPRbHeld
import Derived.WalkLawsBesides
set_option linter.unusedSimpArgs false
set_option linter.unusedVariables false
/-
  A book of the reference's, a branch more at its end (the row of branches may be written in place).
-/
namespace Go.Proofs.YtkeegnhjemhblaaGreatDoor.Rb
open Go.RowKit Go.Maps Go.WideMaps Go.Proofs.YtkeegnhjemhblaaGreatDoor.Rf
variable {B : Nat} {w w1 : World} {r : Nat} {v v' : Value} {Z : BM}

theorem RBk.push {p : List UInt8 × (Value × List En)} (h : RBk B w r v Z) (hx : w.ownsRow B EnT 33 p.2.1 p.2.2.length (cellsL p.2.2)) (hxo : ∀ b ∈ ob p.2.1, b ∉ rbB r v Z)
    (hg : w.grownBy w1 v.ownBlock) (ho : w1.ownsRow B BrT 2 v' (Z.length + 1) (bcells (Z ++ [p]))) (hv : ∀ b ∈ ob v', b ∈ ob v ∨ w.heap.size ≤ b) (hs : SrtM (Z ++ [p])) :
    RBk B (w1.setCell ⟨r, 0, none⟩ v') r v' (Z ++ [p]) := by
  have hr := lt_of_heap h.book
  have far : ∀ k, k < w.heap.size → k ∉ ob v → w1.heap[k]? = w.heap[k]? := fun k hk hn => hg.block k hk (fun e => hn (by simp [ob, ← e]))
  have hq := (far r hr h.offv).trans h.book
  have hpl := rowS_lt hx
  have hrv : r ∉ ob v' := fun hc => by
    rcases hv r hc with h1 | h1
    · exact h.offv h1
    · omega
  have hrp : r ∉ ob p.2.1 := fun hc => hxo r hc rbB_r
  have hre : r ∉ enB (Z ++ [p]) := fun hc => by
    obtain ⟨q, hq, hc⟩ := List.mem_flatMap.1 hc
    rcases List.mem_append.1 hq with h1 | h1
    · exact h.offe (enB_mem h1 hc)
    · rw [List.mem_singleton.1 h1] at hc; exact hrp hc
  have hel : ∀ b ∈ enB (Z ++ [p]), b < w.heap.size ∧ b ∉ ob v := fun b hb => by
    obtain ⟨q, hq, hc⟩ := List.mem_flatMap.1 hb
    rcases List.mem_append.1 hq with h1 | h1
    · exact ⟨rowS_lt (h.each q h1) b hc, fun hk => h.offx b hk (enB_mem h1 hc)⟩
    · rw [List.mem_singleton.1 h1] at hc; exact ⟨hpl b hc, fun hk => hxo b hc (rbB_v hk)⟩
  have keep : ∀ b ∈ enB (Z ++ [p]), (w1.setCell ⟨r, 0, none⟩ v').heap[b]? = w.heap[b]? := fun b hb =>
    (Below.heap_setCell _ _ _ _ (by show b ≠ r; exact fun e => hre (e ▸ hb))).trans (far b (hel b hb).1 (hel b hb).2)
  refine ⟨setCell_heap _ _ _ _ _ _ hq, ?_, fun q hq => ?_, hrv, hre, fun x hx hc => ?_, h.base, hs⟩
  · rw [List.length_append, List.length_singleton]
    exact rowS_kept ho (fun b hb _ => Below.heap_setCell _ _ _ _ (by show b ≠ r; exact fun e => hrv (e ▸ hb)))
  · have hrow : w.ownsRow B EnT 33 q.2.1 q.2.2.length (cellsL q.2.2) := by
      rcases List.mem_append.1 hq with h1 | h1
      · exact h.each q h1
      · rw [List.mem_singleton.1 h1]; exact hx
    exact rowS_kept hrow (fun b hb _ => keep b (enB_mem hq hb))
  · have h1 := hel x hc
    rcases hv x hx with h2 | h2
    · exact h1.2 h2
    · omega
end Go.Proofs.YtkeegnhjemhblaaGreatDoor.Rb
/-
  The contract of the reference's Twin. Printed by genrb6.py.
-/
namespace Go.Proofs.YtkeegnhjemhblaaGreatDoor.Rb
open Go.RowKit Go.Maps Go.WideMaps Go.Proofs.YtkeegnhjemhblaaGreatDoor.Rf

theorem srt_keys {α β : Type} {K : MV α} {L : MV β} (h : K.map (·.1) = L.map (·.1)) (hs : SrtM L) : SrtM K := by
  have h1 : (L.map (·.1)).Pairwise (fun a b => lt a b = true) := List.pairwise_map.2 hs
  rw [← h] at h1
  exact List.pairwise_map.1 h1
set_option linter.unusedSimpArgs false in
set_option maxHeartbeats 8000000 in
set_option maxRecDepth 100000 in
theorem rtwin_any (B : Nat) (w : World) (r : Nat) (v : Value) (Z : BM) (hn : Z.length ≤ 64) (hL : ∀ p ∈ Z, p.2.2.length ≤ 4096 ∧ ∀ e ∈ p.2.2, e.c.length = 32) (h : RBk B w r v Z) :
    Calls Tryz.prog 14 #[ptr r] w fun e w' => e = .returned (ptr w.heap.size) ∧ Below w.heap.size w w' ∧ ∃ v' Z', RBk w.heap.size w' w.heap.size v' Z' ∧ plainB Z' = plainB Z := by
  obtain ⟨i0, hi0, hi1, hi2, hi3⟩ := info_parts infoEn
  obtain ⟨j0, hj0, hj1, hj2, hj3⟩ := info_parts infoBr
  have hi4 : zeroEn.cells.size = 33 := zeroEn_size
  have hj4 : (Value.agg #[.string ⟨#[]⟩, .slice none 0 0]).cells.size = 2 := by kernel_rfl
  obtain ⟨va, vc, rfl⟩ := rowS_slice h.row
  have H := Lib.hid h; have HL := Lib.hid hL
  have KC : Hid (∀ w' : World, Below w.heap.size w w' → w'.cell? ⟨r, 0, none⟩ = some (.slice va Z.length vc)) := Lib.hid (fun w' hb => cell_of_heap (h.below hb).book)
  obtain ⟨W, hW⟩ : ∃ W, W = w.alloc (.cells #[.slice none 0 0] RbT) := ⟨_, rfl⟩
  have HBW : Hid (Below w.heap.size w W) := Lib.hid (by rw [hW]; exact (Below.refl _ _).alloc (Nat.le_refl _) _)
  have HR0 : Hid (RBk w.heap.size W w.heap.size (.slice none 0 0) []) := Lib.hid ⟨by rw [hW]; exact (MapKept.heap_alloc w _).1, ⟨by rfl, .inl ⟨rfl, rfl⟩⟩, (fun p hp => nomatch hp), (fun hc => by simp [ob, Value.ownBlock] at hc), (fun hc => nomatch hc), (fun x _ hc => nomatch hc), Nat.le_refl _, List.Pairwise.nil⟩
  have HW := Lib.hid hW
  clear h hL hW
  unfold ptr
  go_enter Tryz.func14, Tryz.ntmps14
  go_wp2_with fail
  rw [← HW.out]
  go_loopw [4] (fun v4 wr => ∃ (i : Nat) (a1 : Option Addr) (c1 : Nat) (Z1 : BM), i ≤ Z.length ∧ v4 = .int .i64 (i : Int) ∧ Hid (Below w.heap.size w wr) ∧ Hid (RBk w.heap.size wr w.heap.size (.slice a1 i c1) Z1) ∧ Hid (plainB Z1 = (plainB Z).take i)) (fun v4 _ => Z.length - (RowKit.intOf v4).toNat)
  case atStart => exact ⟨0, none, 0, [], Nat.zero_le _, rfl, HBW, HR0, Lib.hid (by simp [plainB, mapM'])⟩
  case round =>
    obtain ⟨i, a1, c1, Z1, hi, rfl, HB, H1, HP⟩ := hrel
    obtain ⟨wo, hwo⟩ : ∃ wo, wo = wr := ⟨_, rfl⟩
    subst hwo
    have k0 := KC.out wo HB.out
    by_cases hil : (i : Int) < (Z.length : Int)
    · have hi2' : i < Z.length := by omega
      have h0 : (0 : Int) ≤ (i : Int) := by omega
      obtain ⟨p, hp⟩ : ∃ p, Z[i]? = some p := ⟨_, List.getElem?_eq_getElem hi2'⟩
      have hzl : Z1.length = i := by have := congrArg List.length HP.out; rw [List.length_take, plain_length, plain_length] at this; omega
      obtain ⟨hl1, hl2⟩ := HL.out p (List.mem_of_getElem? hp)
      obtain ⟨xa, xcc, hxe⟩ : ∃ a c, p.2.1 = .slice a p.2.2.length c := rowS_slice (H.out.each p (List.mem_of_getElem? hp))
      obtain ⟨g, c0, hv, hg0, _⟩ := H.out.cells (by omega)
      injection hv with e1 _ e3
      subst e1 e3
      have KQ : Hid (∀ w' : World, Below w.heap.size w w' → w'.cell? ⟨r, 0, none⟩ = some (.slice (some ⟨g, 0, none⟩) Z.length vc) ∧ w'.cell? ⟨g, i * 2, none⟩ = some (.string ⟨p.1.toArray⟩) ∧ w'.cell? ⟨g, i * 2 + 1, none⟩ = some (.slice xa p.2.2.length xcc)) := Lib.hid (fun w' hb => by
        obtain ⟨g', c', hv', _, k⟩ := (H.out.below hb).cells (by omega)
        injection hv' with e1 _ _
        injection e1 with e1
        injection e1 with e1
        subst e1
        exact ⟨KC.out w' hb, (k i p hp).1, by rw [← hxe]; exact (k i p hp).2⟩)
      have KR : Hid (∀ w' : World, Below wo.heap.size wo w' → (fun w' : World => w'.cell? ⟨r, 0, none⟩ = some (.slice (some ⟨g, 0, none⟩) Z.length vc) ∧ w'.cell? ⟨g, i * 2, none⟩ = some (.string ⟨p.1.toArray⟩) ∧ w'.cell? ⟨g, i * 2 + 1, none⟩ = some (.slice xa p.2.2.length xcc) ∧ w'.cell? ⟨w.heap.size, 0, none⟩ = some (.slice a1 i c1)) w') := Lib.hid (fun w' hb => by
        obtain ⟨b0, b1, b2⟩ := KQ.out w' (HB.out.trans (hb.mono HB.out.size))
        exact ⟨b0, b1, b2, cell_of_heap ((hb.block _ (lt_of_heap H1.out.book)).trans H1.out.book)⟩)
      have KD : Hid (∀ w' : World, Below w.heap.size w w' → w'.heap[w.heap.size]? = some (.cells #[.slice a1 i c1] RbT) → (fun w' : World => w'.cell? ⟨r, 0, none⟩ = some (.slice (some ⟨g, 0, none⟩) Z.length vc) ∧ w'.cell? ⟨g, i * 2, none⟩ = some (.string ⟨p.1.toArray⟩) ∧ w'.cell? ⟨g, i * 2 + 1, none⟩ = some (.slice xa p.2.2.length xcc) ∧ w'.cell? ⟨w.heap.size, 0, none⟩ = some (.slice a1 i c1)) w') := Lib.hid (fun w' hb hq => by
        obtain ⟨b0, b1, b2⟩ := KQ.out w' hb
        exact ⟨b0, b1, b2, cell_of_heap hq⟩)
      have HH : Hid (∀ w' : World, Below wo.heap.size wo w' → HoldN w' (.slice xa p.2.2.length xcc) p.2.2.length (cellsL p.2.2)) := Lib.hid (fun w' hb => by
        rw [← hxe]
        exact hold_row (rowS_kept (H.out.each p (List.mem_of_getElem? hp)) (fun b _ hl => (HB.out.trans (hb.mono HB.out.size)).block b hl)))
      have HLL : Hid ((cellsL p.2.2).length = p.2.2.length * 33) := Lib.hid (by rw [cellsL_length hl2]; omega)
      have HR1 : Hid (∀ w' : World, Below wo.heap.size wo w' → w'.ownsRow w.heap.size BrT 2 (.slice a1 i c1) i (bcells Z1)) := Lib.hid (fun w' hb => by have := (H1.out.below hb).row; rwa [hzl] at this)
      have PUSH : Hid (∀ (wc wd : World) (a2 : Option Addr) (c2 : Nat) (x4 : Value), Below wo.heap.size wo wc → wc.ownsRow wo.heap.size EnT 33 (.slice a2 p.2.2.length c2) p.2.2.length (cellsL p.2.2) → wc.grownBy wd (Value.slice a1 i c1).ownBlock → wd.ownsRow w.heap.size BrT 2 x4 (i + 1) (bcells Z1 ++ brC (p.1, ((.slice a2 p.2.2.length c2 : Value), p.2.2))) → (x4.ownBlock = (Value.slice a1 i c1).ownBlock ∨ x4.ownBlock = some wc.heap.size) →
          RBk w.heap.size (wd.setCell ⟨w.heap.size, 0, none⟩ x4) w.heap.size x4 (Z1 ++ [(p.1, ((.slice a2 p.2.2.length c2 : Value), p.2.2))]) ∧ plainB (Z1 ++ [(p.1, ((.slice a2 p.2.2.length c2 : Value), p.2.2))]) = (plainB Z).take (i + 1)) := Lib.hid (fun wc wd a2 c2 x4 hb ho2 hg ho hx => by
        have e0 : plainB (Z1 ++ [(p.1, ((.slice a2 p.2.2.length c2 : Value), p.2.2))]) = (plainB Z).take (i + 1) := by
          have hpz : (plainB Z)[i]? = some (p.1, p.2.2) := by rw [plainB, mapM', List.getElem?_map, hp]; rfl
          rw [List.take_add_one, hpz, ← HP.out]
          simp [plainB, mapM']
        refine ⟨(H1.out.below hb).push (row_mono ho2 HB.out.size) (fun b hb1 hb2 => ?_) hg (by rw [hzl, bcells_append]; simpa [bcells] using ho) (fun b hb1 => ?_) ?_, e0⟩
        · have h1 := rowS_ge ho2 b hb1
          have h2 := H1.out.lt b hb2
          omega
        · rcases hx with h1 | h1
          · exact .inl (by simpa [ob, h1] using hb1)
          · refine .inr (Nat.le_of_eq ?_)
            have h2 : b = wc.heap.size := by simpa [ob, h1] using hb1
            exact h2.symm
        · refine srt_keys (L := (Z.take (i + 1))) ?_ (List.Pairwise.sublist (List.take_sublist _ _) H.out.srt)
          have := congrArg (List.map (fun x : List UInt8 × List En => x.1)) e0
          simpa [plainB, mapM', List.map_take, Function.comp_def] using this)
      have hmm : p.2.2.length ≤ 4096 := hl1
      have HPP := Lib.hid hp
      clear hxe hg0 hp hzl hl1 hl2
      go_upto_region 5 with (fail)
      refine region_held (S := (fun w' : World => w'.cell? ⟨r, 0, none⟩ = some (.slice (some ⟨g, 0, none⟩) Z.length vc) ∧ w'.cell? ⟨g, i * 2, none⟩ = some (.string ⟨p.1.toArray⟩) ∧ w'.cell? ⟨g, i * 2 + 1, none⟩ = some (.slice xa p.2.2.length xcc) ∧ w'.cell? ⟨w.heap.size, 0, none⟩ = some (.slice a1 i c1))) (k := 28) (by kernel_rfl) (KR.out _ (Below.refl _ _).drew) (fun hHeld => ?_)
      refine held_take (i := 0) (v := ?_) rfl (by kernel_rfl) (by kernel_rfl) (by kernel_rfl) (by kernel_rfl) (fun _ _ _ h => h) (Or.inl ⟨by rfl, ?d0⟩) hHeld ?_
      case d0 =>
        intro wS hSw
        obtain ⟨z0, z1, z2, z3⟩ := hSw
        go_simp
        try with_reducible rfl
      try simp only [Act.put, List.getElem_toArray, List.getElem_cons_zero, List.getElem_cons_succ, List.setIfInBounds_toArray, List.set_cons_zero, List.set_cons_succ]
      refine held_take (i := 1) (v := ?_) rfl (by kernel_rfl) (by kernel_rfl) (by kernel_rfl) (by kernel_rfl) (fun _ _ _ h => h) (Or.inl ⟨by rfl, ?d1⟩) hHeld ?_
      case d1 =>
        intro wS hSw
        obtain ⟨z0, z1, z2, z3⟩ := hSw
        go_simp
        try with_reducible rfl
      try simp only [Act.put, List.getElem_toArray, List.getElem_cons_zero, List.getElem_cons_succ, List.setIfInBounds_toArray, List.set_cons_zero, List.set_cons_succ]
      refine held_take (i := 2) (v := ?_) rfl (by kernel_rfl) (by kernel_rfl) (by kernel_rfl) (by kernel_rfl) (fun _ _ _ h => h) (Or.inl ⟨by rfl, ?d2⟩) hHeld ?_
      case d2 =>
        intro wS hSw
        obtain ⟨z0, z1, z2, z3⟩ := hSw
        go_simp
        try with_reducible rfl
      try simp only [Act.put, List.getElem_toArray, List.getElem_cons_zero, List.getElem_cons_succ, List.setIfInBounds_toArray, List.set_cons_zero, List.set_cons_succ]
      refine held_take (i := 3) (v := ?_) rfl (by kernel_rfl) (by kernel_rfl) (by kernel_rfl) (by kernel_rfl) (fun _ _ _ h => h) (Or.inl ⟨by rfl, ?d3⟩) hHeld ?_
      case d3 =>
        intro wS hSw
        obtain ⟨z0, z1, z2, z3⟩ := hSw
        go_simp
        try with_reducible rfl
      try simp only [Act.put, List.getElem_toArray, List.getElem_cons_zero, List.getElem_cons_succ, List.setIfInBounds_toArray, List.set_cons_zero, List.set_cons_succ]
      refine held_take (i := 4) (v := ?_) rfl (by kernel_rfl) (by kernel_rfl) (by kernel_rfl) (by kernel_rfl) (fun _ _ _ h => h) (Or.inl ⟨by rfl, ?d4⟩) hHeld ?_
      case d4 =>
        intro wS hSw
        obtain ⟨z0, z1, z2, z3⟩ := hSw
        go_simp
        try with_reducible rfl
      try simp only [Act.put, List.getElem_toArray, List.getElem_cons_zero, List.getElem_cons_succ, List.setIfInBounds_toArray, List.set_cons_zero, List.set_cons_succ]
      refine held_take (i := 5) (v := ?_) rfl (by kernel_rfl) (by kernel_rfl) (by kernel_rfl) (by kernel_rfl) (fun _ _ _ h => h) (Or.inl ⟨by rfl, ?d5⟩) hHeld ?_
      case d5 =>
        intro wS hSw
        obtain ⟨z0, z1, z2, z3⟩ := hSw
        go_simp
        try with_reducible rfl
      try simp only [Act.put, List.getElem_toArray, List.getElem_cons_zero, List.getElem_cons_succ, List.setIfInBounds_toArray, List.set_cons_zero, List.set_cons_succ]
      refine held_take (i := 6) (v := ?_) rfl (by kernel_rfl) (by kernel_rfl) (by kernel_rfl) (by kernel_rfl) (fun _ _ _ h => h) (Or.inl ⟨by rfl, ?d6⟩) hHeld ?_
      case d6 =>
        intro wS hSw
        obtain ⟨z0, z1, z2, z3⟩ := hSw
        go_simp
        try with_reducible rfl
      try simp only [Act.put, List.getElem_toArray, List.getElem_cons_zero, List.getElem_cons_succ, List.setIfInBounds_toArray, List.set_cons_zero, List.set_cons_succ]
      refine held_take (i := 7) (v := ?_) rfl (by kernel_rfl) (by kernel_rfl) (by kernel_rfl) (by kernel_rfl) (fun _ _ _ h => h) (Or.inl ⟨by rfl, ?d7⟩) hHeld ?_
      case d7 =>
        intro wS hSw
        obtain ⟨z0, z1, z2, z3⟩ := hSw
        go_simp
        try with_reducible rfl
      try simp only [Act.put, List.getElem_toArray, List.getElem_cons_zero, List.getElem_cons_succ, List.setIfInBounds_toArray, List.set_cons_zero, List.set_cons_succ]
      refine held_take (i := 8) (v := ?_) rfl (by kernel_rfl) (by kernel_rfl) (by kernel_rfl) (by kernel_rfl) (fun _ _ _ h => h) (Or.inl ⟨by rfl, ?d8⟩) hHeld ?_
      case d8 =>
        intro wS hSw
        obtain ⟨z0, z1, z2, z3⟩ := hSw
        go_simp
        try with_reducible rfl
      try simp only [Act.put, List.getElem_toArray, List.getElem_cons_zero, List.getElem_cons_succ, List.setIfInBounds_toArray, List.set_cons_zero, List.set_cons_succ]
      refine held_take (i := 9) (v := ?_) rfl (by kernel_rfl) (by kernel_rfl) (by kernel_rfl) (by kernel_rfl) (fun _ _ _ h => h) (Or.inl ⟨by rfl, ?d9⟩) hHeld ?_
      case d9 =>
        intro wS hSw
        obtain ⟨z0, z1, z2, z3⟩ := hSw
        go_simp
        try with_reducible rfl
      try simp only [Act.put, List.getElem_toArray, List.getElem_cons_zero, List.getElem_cons_succ, List.setIfInBounds_toArray, List.set_cons_zero, List.set_cons_succ]
      refine held_take (i := 10) (v := ?_) rfl (by kernel_rfl) (by kernel_rfl) (by kernel_rfl) (by kernel_rfl) (fun _ _ _ h => h) (Or.inl ⟨by rfl, ?d10⟩) hHeld ?_
      case d10 =>
        intro wS hSw
        obtain ⟨z0, z1, z2, z3⟩ := hSw
        go_simp
        try with_reducible rfl
      try simp only [Act.put, List.getElem_toArray, List.getElem_cons_zero, List.getElem_cons_succ, List.setIfInBounds_toArray, List.set_cons_zero, List.set_cons_succ]
      refine held_take (i := 11) (v := ?_) rfl (by kernel_rfl) (by kernel_rfl) (by kernel_rfl) (by kernel_rfl) (fun _ _ _ h => h) (Or.inl ⟨by rfl, ?d11⟩) hHeld ?_
      case d11 =>
        intro wS hSw
        obtain ⟨z0, z1, z2, z3⟩ := hSw
        go_simp
        try with_reducible rfl
      try simp only [Act.put, List.getElem_toArray, List.getElem_cons_zero, List.getElem_cons_succ, List.setIfInBounds_toArray, List.set_cons_zero, List.set_cons_succ]
      refine held_take (i := 12) (v := ?_) rfl (by kernel_rfl) (by kernel_rfl) (by kernel_rfl) (by kernel_rfl) (fun _ _ _ h => h) (Or.inl ⟨by rfl, ?d12⟩) hHeld ?_
      case d12 =>
        intro wS hSw
        obtain ⟨z0, z1, z2, z3⟩ := hSw
        go_simp
        try with_reducible rfl
      try simp only [Act.put, List.getElem_toArray, List.getElem_cons_zero, List.getElem_cons_succ, List.setIfInBounds_toArray, List.set_cons_zero, List.set_cons_succ]
      refine held_take (i := 14) (v := ?_) rfl (by kernel_rfl) (by kernel_rfl) (by kernel_rfl) (by kernel_rfl) (fun _ _ _ h => h) (Or.inl ⟨by rfl, ?d13⟩) hHeld ?_
      case d13 =>
        intro wS hSw
        obtain ⟨z0, z1, z2, z3⟩ := hSw
        go_simp
        try with_reducible rfl
      try simp only [Act.put, List.getElem_toArray, List.getElem_cons_zero, List.getElem_cons_succ, List.setIfInBounds_toArray, List.set_cons_zero, List.set_cons_succ]
      refine held_take (i := 15) (v := ?_) rfl (by kernel_rfl) (by kernel_rfl) (by kernel_rfl) (by kernel_rfl) (fun _ _ _ h => h) (Or.inl ⟨by rfl, ?d14⟩) hHeld ?_
      case d14 =>
        intro wS hSw
        obtain ⟨z0, z1, z2, z3⟩ := hSw
        go_simp
        try with_reducible rfl
      try simp only [Act.put, List.getElem_toArray, List.getElem_cons_zero, List.getElem_cons_succ, List.setIfInBounds_toArray, List.set_cons_zero, List.set_cons_succ]
      refine held_take (i := 16) (v := ?_) rfl (by kernel_rfl) (by kernel_rfl) (by kernel_rfl) (by kernel_rfl) (fun _ _ _ h => h) (Or.inl ⟨by rfl, ?d15⟩) hHeld ?_
      case d15 =>
        intro wS hSw
        obtain ⟨z0, z1, z2, z3⟩ := hSw
        go_simp
        try with_reducible rfl
      try simp only [Act.put, List.getElem_toArray, List.getElem_cons_zero, List.getElem_cons_succ, List.setIfInBounds_toArray, List.set_cons_zero, List.set_cons_succ]
      refine held_take (i := 17) (v := ?_) rfl (by kernel_rfl) (by kernel_rfl) (by kernel_rfl) (by kernel_rfl) (fun _ _ _ h => h) (Or.inl ⟨by rfl, ?d16⟩) hHeld ?_
      case d16 =>
        intro wS hSw
        obtain ⟨z0, z1, z2, z3⟩ := hSw
        go_simp
        try with_reducible rfl
      try simp only [Act.put, List.getElem_toArray, List.getElem_cons_zero, List.getElem_cons_succ, List.setIfInBounds_toArray, List.set_cons_zero, List.set_cons_succ]
      refine held_take (i := 18) (v := ?_) rfl (by kernel_rfl) (by kernel_rfl) (by kernel_rfl) (by kernel_rfl) (fun _ _ _ h => h) (Or.inl ⟨by rfl, ?d17⟩) hHeld ?_
      case d17 =>
        intro wS hSw
        obtain ⟨z0, z1, z2, z3⟩ := hSw
        go_simp
        try with_reducible rfl
      try simp only [Act.put, List.getElem_toArray, List.getElem_cons_zero, List.getElem_cons_succ, List.setIfInBounds_toArray, List.set_cons_zero, List.set_cons_succ]
      refine held_take (i := 19) (v := ?_) rfl (by kernel_rfl) (by kernel_rfl) (by kernel_rfl) (by kernel_rfl) (fun _ _ _ h => h) (Or.inl ⟨by rfl, ?d18⟩) hHeld ?_
      case d18 =>
        intro wS hSw
        obtain ⟨z0, z1, z2, z3⟩ := hSw
        go_simp
        try with_reducible rfl
      try simp only [Act.put, List.getElem_toArray, List.getElem_cons_zero, List.getElem_cons_succ, List.setIfInBounds_toArray, List.set_cons_zero, List.set_cons_succ]
      refine held_take (i := 20) (v := ?_) rfl (by kernel_rfl) (by kernel_rfl) (by kernel_rfl) (by kernel_rfl) (fun _ _ _ h => h) (Or.inl ⟨by rfl, ?d19⟩) hHeld ?_
      case d19 =>
        intro wS hSw
        obtain ⟨z0, z1, z2, z3⟩ := hSw
        go_simp
        try with_reducible rfl
      try simp only [Act.put, List.getElem_toArray, List.getElem_cons_zero, List.getElem_cons_succ, List.setIfInBounds_toArray, List.set_cons_zero, List.set_cons_succ]
      refine held_take (i := 21) (v := ?_) rfl (by kernel_rfl) (by kernel_rfl) (by kernel_rfl) (by kernel_rfl) (fun _ _ _ h => h) (Or.inl ⟨by rfl, ?d20⟩) hHeld ?_
      case d20 =>
        intro wS hSw
        obtain ⟨z0, z1, z2, z3⟩ := hSw
        go_simp
        try with_reducible rfl
      try simp only [Act.put, List.getElem_toArray, List.getElem_cons_zero, List.getElem_cons_succ, List.setIfInBounds_toArray, List.set_cons_zero, List.set_cons_succ]
      refine held_ready (rs := [13]) (by kernel_rfl) (by simp) ?_
      refine AllHeld.cons rfl (fun K hK => ?_) AllHeld.nil
      refine step_wp rfl ?_
      refine wp_noneN 33 99 89 i0 _ rfl Tryz.underlying99 hi0 hi1 hi2 ?_
      intro x1 wa ho1 hg1 hx1
      have HBA : Hid (Below wo.heap.size wo wa) := Lib.hid ((Below.refl wo.heap.size wo).drew.grown hg1 (Below.refl wo.heap.size wo).drew.size (fun k hk => nomatch hk))
      have ka := KR.out wa HBA.out
      have ho1 : wa.ownsRow wo.heap.size 89 33 x1 0 [] := ho1
      refine hK.out _ _ (fun _ => ka) (fun hHeld => ?_)
      clear hK K
      have hHeld := hHeld (by decide)
      try simp only [Act.put, List.getElem_toArray, List.getElem_cons_zero, List.getElem_cons_succ, List.setIfInBounds_toArray, List.set_cons_zero, List.set_cons_succ]
      refine held_ready (rs := [22]) (by kernel_rfl) (by simp) ?_
      refine AllHeld.cons rfl (fun K hK => ?_) AllHeld.nil
      refine step_wp rfl ?_
      refine wp_append_holdN 33 (by decide) (.tmp 29) (.tmp 37) 99 rfl wo.heap.size 89 i0 _ 40 Tryz.underlying99 hi0 hi1 hi2 hi3 hi4 x1 0 [] ?ap ho1 (.slice xa p.2.2.length xcc) p.2.2.length (cellsL p.2.2) ?bp (HH.out wa HBA.out) ?cp ?dp ?ep ?fp ?gp ?hp
      case ap => rfl
      case bp => rfl
      case cp => exact HLL.out
      case dp => exact cellsL_one _
      case ep => unfold maxLen; omega
      case fp => omega
      case gp => exact HBA.out.size
      intro x2 wb ho2 hg2 hx2
      have HBB : Hid (Below wo.heap.size wo wb) := Lib.hid (HBA.out.grown hg2 HBA.out.size (fun k hk => rowS_ge ho1 k (by simp [ob, hk])))
      have ka := KR.out wb HBB.out
      rw [Nat.zero_add, List.nil_append] at ho2
      obtain ⟨a2, c2, rfl⟩ := rowS_slice ho2
      obtain ⟨xc, hxc⟩ : ∃ xc, xc = brC (p.1, ((.slice a2 p.2.2.length c2 : Value), p.2.2)) := ⟨_, rfl⟩
      have HXC := Lib.hid hxc
      have HC2 : Hid (xc.length = 2) := Lib.hid (by rw [hxc]; rfl)
      clear hxc
      refine hK.out _ _ (fun _ => ka) (fun hHeld => ?_)
      clear hK K
      have hHeld := hHeld (by decide)
      try simp only [Act.put, List.getElem_toArray, List.getElem_cons_zero, List.getElem_cons_succ, List.setIfInBounds_toArray, List.set_cons_zero, List.set_cons_succ]
      refine held_take (i := 23) (v := (.agg xc.toArray)) rfl (by kernel_rfl) (by kernel_rfl) (by kernel_rfl) (by kernel_rfl) (fun _ _ _ h => h) (Or.inl ⟨by rfl, ?d21⟩) hHeld ?_
      case d21 =>
        intro wS hSw
        obtain ⟨z0, z1, z2, z3⟩ := hSw
        rw [HXC.out]
        go_simp
        try rfl
      try simp only [Act.put, List.getElem_toArray, List.getElem_cons_zero, List.getElem_cons_succ, List.setIfInBounds_toArray, List.set_cons_zero, List.set_cons_succ]
      refine held_ready (rs := [24]) (by kernel_rfl) (by simp) ?_
      refine AllHeld.cons rfl (fun K hK => ?_) AllHeld.nil
      refine step_wp rfl ?_
      refine wp_oneH 2 (by decide) (by decide) 34 113 (.tmp 39) xc j0 _ rfl (by rw [HXC.out]; rfl) Tryz.underlying34 hj0 hj1 hj2 HC2.out ?_
      intro x3 wc hh3 hg3 hx3 hs3
      have HBC : Hid (Below wo.heap.size wo wc) := Lib.hid (HBB.out.grown hg3 HBB.out.size (fun k hk => nomatch hk))
      have ka := KR.out wc HBC.out
      refine hK.out _ _ (fun _ => ka) (fun hHeld => ?_)
      clear hK K
      have hHeld := hHeld (by decide)
      try simp only [Act.put, List.getElem_toArray, List.getElem_cons_zero, List.getElem_cons_succ, List.setIfInBounds_toArray, List.set_cons_zero, List.set_cons_succ]
      refine held_ready (rs := [25]) (by kernel_rfl) (by simp) ?_
      refine AllHeld.cons rfl (fun K hK => ?_) AllHeld.nil
      refine step_wp rfl ?_
      refine wp_append_holdN 2 (by decide) (.tmp 20) (.tmp 40) 34 rfl w.heap.size 113 j0 _ 40 Tryz.underlying34 hj0 hj1 hj2 hj3 hj4 (.slice a1 i c1) i (bcells Z1) ?aq (HR1.out wc HBC.out) x3 1 xc ?bq hh3 ?cq ?dq ?eq ?fq ?gq ?hq
      case aq => rfl
      case bq => rfl
      case cq => exact HC2.out
      case dq => rw [HXC.out]; intro u hu; simp only [brC, List.mem_cons, List.not_mem_nil, or_false] at hu; rcases hu with rfl | rfl <;> rfl
      case eq => unfold maxLen; omega
      case fq => omega
      case gq => exact Nat.le_trans HB.out.size HBC.out.size
      intro x4 wd ho4 hg4 hx4
      have HO2 : Hid (wc.ownsRow wo.heap.size EnT 33 (.slice a2 p.2.2.length c2) p.2.2.length (cellsL p.2.2)) := Lib.hid (rowS_kept ho2 (fun b _ hl => hg3.block b hl (fun h => nomatch h)))
      rw [HXC.out] at ho4
      have HBD : Hid (Below w.heap.size w wd) := Lib.hid ((HB.out.trans (HBC.out.mono HB.out.size)).grown hg4 (Nat.le_trans HB.out.size HBC.out.size) (fun k hk => H1.out.ge k (rbB_v (by simp [ob, hk]))))
      have HQD : Hid (wd.heap[w.heap.size]? = some (.cells #[.slice a1 i c1] RbT)) := Lib.hid ((hg4.block _ (Nat.lt_of_lt_of_le (lt_of_heap H1.out.book) HBC.out.size) (fun h => H1.out.offv (by simp [ob, ← h]))).trans ((HBC.out.block _ (lt_of_heap H1.out.book)).trans H1.out.book))
      have HPU := Lib.hid (PUSH.out wc wd a2 c2 x4 HBC.out HO2.out hg4 ho4 hx4)
      obtain ⟨a4, c4, rfl⟩ := rowS_slice ho4
      have ka := KD.out wd HBD.out HQD.out
      have kf : wd.frozen? ⟨w.heap.size, 0, none⟩ = false := frozen_of_heap HQD.out
      clear ho4 hg4 hx4
      refine hK.out _ _ (fun _ => ka) (fun hHeld => ?_)
      clear hK K
      have hHeld := hHeld (by decide)
      try simp only [Act.put, List.getElem_toArray, List.getElem_cons_zero, List.getElem_cons_succ, List.setIfInBounds_toArray, List.set_cons_zero, List.set_cons_succ]
      refine held_ready (rs := [26]) (by kernel_rfl) (by simp) ?_
      refine AllHeld.cons rfl (fun K hK => ?_) AllHeld.nil
      have z3 := ka.2.2.2
      go_simp
      refine hK.out _ _ (fun _ => ka) (fun hHeld => ?_)
      clear hK K
      have hHeld := hHeld (by decide)
      try simp only [Act.put, List.getElem_toArray, List.getElem_cons_zero, List.getElem_cons_succ, List.setIfInBounds_toArray, List.set_cons_zero, List.set_cons_succ]
      refine held_ready (rs := [27]) (by kernel_rfl) (by simp) ?_
      refine AllHeld.cons rfl (fun K hK => ?_) AllHeld.nil
      have z3 := ka.2.2.2
      go_simp
      refine hK.out _ _ (fun _ => ka) (fun hHeld => ?_)
      clear hK K
      have hHeld := hHeld (by decide)
      try simp only [Act.put, List.getElem_toArray, List.getElem_cons_zero, List.getElem_cons_succ, List.setIfInBounds_toArray, List.set_cons_zero, List.set_cons_succ]
      refine held_ready (rs := [28]) (by kernel_rfl) (by simp) ?_
      refine AllHeld.cons rfl (fun K hK => ?_) AllHeld.nil
      have z3 := ka.2.2.2
      go_simp
      refine hK.out _ _ (fun h => absurd rfl h) (fun _ => ?_)
      clear hK K
      try simp only [Act.put, List.getElem_toArray, List.getElem_cons_zero, List.getElem_cons_succ, List.setIfInBounds_toArray, List.set_cons_zero, List.set_cons_succ]
      refine held_done (by kernel_rfl) ?_ _
      clear hHeld
      try simp only [Act.put, List.getElem_toArray, List.getElem_cons_zero, List.getElem_cons_succ, List.setIfInBounds_toArray, List.set_cons_zero, List.set_cons_succ]
      go_wp2
      go_roundw
      case rel => exact ⟨i + 1, a4, c4, _, by omega, by go_num, Lib.hid (HBD.out.setCell (p := ⟨w.heap.size, 0, none⟩) (Nat.le_refl _) _), Lib.hid HPU.out.1, Lib.hid HPU.out.2⟩
      case measure => simp [RowKit.intOf]; omega
    · obtain rfl : i = Z.length := by omega
      go_wp2
      go_ret
      exact ⟨rfl, HB.out, _, Z1, H1.out, by rw [HP.out, ← plain_length, List.take_length]⟩
end Go.Proofs.YtkeegnhjemhblaaGreatDoor.Rb
