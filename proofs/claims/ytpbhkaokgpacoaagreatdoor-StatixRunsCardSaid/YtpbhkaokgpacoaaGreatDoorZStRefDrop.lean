import Derived.Test.YtpbhkaokgpacoaaGreatDoorZStAppend
set_option linter.unusedSimpArgs false
set_option linter.unusedVariables false
/-
  The contract of the reference's Drop.
-/
namespace Go.Proofs.YtpbhkaokgpacoaaGreatDoor.St
open Go.RowKit Go.Maps Go.WideMaps Go.Proofs.YtpbhkaokgpacoaaGreatDoor.Rf Go.Proofs.YtpbhkaokgpacoaaGreatDoor.Rd

/-- What a call that turns the reference's index leaves. -/
def RxPost (B : Nat) (w : World) (r : Nat) (v : Value) (c : Int) (L' : List SE) (e : Ending) (w' : World) : Prop :=
  ∃ v', e = .returned (.int .i64 c) ∧ RefAt B w' r v' L' ∧ Turn (r :: ob v) w w' ∧ ∀ x ∈ ob v', x ∈ ob v ∨ w.heap.size ≤ x
theorem rxPost_same {B : Nat} {w w' : World} {r : Nat} {v : Value} {c : Int} {L : List SE} {e : Ending} (h : RefAt B w r v L) (he : e = .returned (.int .i64 c)) (hb : Below w.heap.size w w') : RxPost B w r v c L e w' :=
  ⟨v, he, h.below hb, Turn.of_below hb, fun _ hx => .inl hx⟩
/-- A new list was put together behind, and laid into the index. -/
theorem rxPost_new {B : Nat} {w wc : World} {r n : Nat} {v v' : Value} {c : Int} {L L' : List SE} {e : Ending} (h : RefAt B w r v L) (hb : Below w.heap.size w wc) (he : e = .returned (.int .i64 c))
    (hn : w.heap.size ≤ n) (ho : wc.ownsRow n 49 38 v' L'.length (cellsS L')) (hs : Srt L') (hf : ∀ e ∈ L', e.Fits) (hl : L'.length ≤ 65536) : RxPost B w r v c L' e (wc.setCell ⟨r, 0, none⟩ v') := by
  have h1 := h.below hb
  have hge := rowS_ge ho
  have hrl := h.lt
  refine ⟨v', he, ⟨?_, ?_, fun x hx => ?_, h.base, hs, hf, hl⟩, ?_, fun x hx => .inr (Nat.le_trans hn (hge x hx))⟩
  · rw [setCell_heap _ _ _ _ _ _ h1.book]; rfl
  · refine rowS_kept (row_mono ho (Nat.le_trans h.base (Nat.le_trans (Nat.le_of_lt hrl) hn))) (fun x hx _ => Below.heap_setCell _ _ _ _ ?_)
    have := hge x hx
    show x ≠ r
    omega
  · have := hge x hx
    omega
  · exact ((Turn.of_below hb : Turn (r :: ob v) w wc)).setCell (.inl (by simp)) _

set_option linter.unusedSimpArgs false in
set_option maxHeartbeats 8000000 in
set_option maxRecDepth 100000 in
theorem ref_drop (B : Nat) (w : World) (r : Nat) (v : Value) (L : List SE) (S : ByteArray) (hS : S.size ≤ maxLen) (h : RefAt B w r v L) :
    Calls Tryz.prog 15 #[ptr r, .string S] w (RxPost B w r v (getE S.data.toList L) (remL S.data.toList L)) := by
  have AT := Lib.hid (at_any B w r v L S.data.toList (by rw [← Lib.size_eq]; exact hS) h)
  rw [ba_mk] at AT
  have H := Lib.hid h
  have hll : L.length ≤ 65536 := h.len
  unfold ptr getE at *
  unfold thereL at AT
  cases hg : getL S.data.toList L with
  | none =>
    rw [hg] at AT
    have HRN := Lib.hid (remL_none hg)
    clear hg h
    go_enter Tryz.func15, Tryz.ntmps15
    go_wp2_with fail
    refine AT.out.mono ?_
    rintro e w1 ⟨rfl, hb1⟩
    have HB1 := Lib.hid hb1
    clear hb1 AT
    go_wp2
    go_ret
    rw [HRN.out]
    exact rxPost_same H.out rfl HB1.out
  | some en =>
    rw [hg] at AT
    have hat := getL_at S.data.toList L
    rw [hg] at hat
    obtain ⟨x, hx, _⟩ := Option.bind_eq_some_iff.1 hat.symm
    have hil : atL S.data.toList L < L.length := (List.getElem?_eq_some_iff.1 hx).1
    have HRM := Lib.hid (remL_there hg)
    have HS := Lib.hid (remL_srt (p := S.data.toList) h.srt)
    have HSUB := Lib.hid (remL_sub S.data.toList L)
    generalize remL S.data.toList L = L' at *
    generalize atL S.data.toList L = ia at *
    clear hg hat hx h
    go_enter Tryz.func15, Tryz.ntmps15
    go_wp2_with fail
    refine AT.out.mono ?_
    rintro e w1 ⟨rfl, hb1⟩
    have HB1 := Lib.hid hb1
    have h1 := H.out.below hb1
    have KR : Hid (∀ w' : World, Below w1.heap.size w1 w' → w'.cell? ⟨r, 0, none⟩ = some v) := Lib.hid (fun w' hb => by rw [cell_of_heap (h1.below hb).book]; rfl)
    have KF : Hid (∀ w' : World, Below w1.heap.size w1 w' → w'.frozen? ⟨r, 0, none⟩ = false) := Lib.hid (fun w' hb => frozen_of_heap (h1.below hb).book)
    obtain ⟨x7, hx7, hh7, hxb7⟩ := slice_front h1 (Nat.le_of_lt hil)
    obtain ⟨x15, hx15, hh15, hxb15⟩ := slice_back h1 (i := ia + 1) hil
    have e1 : ((ia + 1 : Nat) : Int) = IntKind.i64.wrap ((ia : Int) + 1) := by rw [IntKind.wrap_i64]; omega
    simp only [e1] at hx15
    clear e1
    have HX7 := Lib.hid hx7; have H7 := Lib.hid hh7; have HX15 := Lib.hid hx15; have H15 := Lib.hid hh15
    have HX7B := Lib.hid (fun a c e => rowS_lt h1.row _ (hxb7 a c e))
    have HX15B := Lib.hid (fun a c e => rowS_lt h1.row _ (hxb15 a c e))
    have HL1 := Lib.hid (show (cellsS (L.take ia)).length = ia * 38 by rw [cellsS_length (fun e he => (h1.fits e (List.mem_of_mem_take he)).id), List.length_take, Nat.min_eq_left (Nat.le_of_lt hil), Nat.mul_comm])
    have HL2 := Lib.hid (show (cellsS (L.drop (ia + 1))).length = (L.length - (ia + 1)) * 38 by rw [cellsS_length (fun e he => (h1.fits e (List.mem_of_mem_drop he)).id), List.length_drop, Nat.mul_comm])
    obtain ⟨i0, hi0, hz0, hz1, hz2⟩ := info_parts infoZR
    have hz3 : (enV zeroS).cells.size = 38 := by kernel_rfl
    clear hx7 hh7 hxb7 hx15 hh15 hxb15 hb1 AT h1
    go_wp2
    refine region_held (S := (fun w' : World => w'.cell? ⟨r, 0, none⟩ = some v)) (k := 19) (by kernel_rfl) (KR.out _ (Below.refl _ _).drew) (fun hHeld => ?_)
    refine held_take (i := 0) (v := ?_) rfl (by kernel_rfl) (by kernel_rfl) (by kernel_rfl) (by kernel_rfl) (fun _ _ _ h => h) (Or.inl ⟨by rfl, ?d0⟩) hHeld ?_
    case d0 =>
      intro wS hSw
      have k0 := hSw
      go_simp
      try with_reducible rfl
    try simp only [Act.put, List.getElem_toArray, List.getElem_cons_zero, List.getElem_cons_succ, List.setIfInBounds_toArray, List.set_cons_zero, List.set_cons_succ]
    refine held_take (i := 2) (v := ?_) rfl (by kernel_rfl) (by kernel_rfl) (by kernel_rfl) (by kernel_rfl) (fun _ _ _ h => h) (Or.inl ⟨by rfl, ?d1⟩) hHeld ?_
    case d1 =>
      intro wS hSw
      have k0 := hSw
      go_simp
      try with_reducible rfl
    try simp only [Act.put, List.getElem_toArray, List.getElem_cons_zero, List.getElem_cons_succ, List.setIfInBounds_toArray, List.set_cons_zero, List.set_cons_succ]
    refine held_take (i := 3) (v := ?_) rfl (by kernel_rfl) (by kernel_rfl) (by kernel_rfl) (by kernel_rfl) (fun _ _ _ h => h) (Or.inl ⟨by rfl, ?d2⟩) hHeld ?_
    case d2 =>
      intro wS hSw
      have k0 := hSw
      go_simp
      try with_reducible rfl
    try simp only [Act.put, List.getElem_toArray, List.getElem_cons_zero, List.getElem_cons_succ, List.setIfInBounds_toArray, List.set_cons_zero, List.set_cons_succ]
    refine held_take (i := 4) (v := ?_) rfl (by kernel_rfl) (by kernel_rfl) (by kernel_rfl) (by kernel_rfl) (fun _ _ _ h => h) (Or.inl ⟨by rfl, ?d3⟩) hHeld ?_
    case d3 =>
      intro wS hSw
      have k0 := hSw
      go_simp
      try with_reducible rfl
    try simp only [Act.put, List.getElem_toArray, List.getElem_cons_zero, List.getElem_cons_succ, List.setIfInBounds_toArray, List.set_cons_zero, List.set_cons_succ]
    refine held_take (i := 5) (v := ?_) rfl (by kernel_rfl) (by kernel_rfl) (by kernel_rfl) (by kernel_rfl) (fun _ _ _ h => h) (Or.inl ⟨by rfl, ?d4⟩) hHeld ?_
    case d4 =>
      intro wS hSw
      have k0 := hSw
      go_simp
      try with_reducible rfl
    try simp only [Act.put, List.getElem_toArray, List.getElem_cons_zero, List.getElem_cons_succ, List.setIfInBounds_toArray, List.set_cons_zero, List.set_cons_succ]
    refine held_take (i := 6) (v := ?_) rfl (by kernel_rfl) (by kernel_rfl) (by kernel_rfl) (by kernel_rfl) (fun _ _ _ h => h) (Or.inl ⟨by rfl, ?d5⟩) hHeld ?_
    case d5 =>
      intro wS hSw
      have k0 := hSw
      go_simp
      try with_reducible rfl
    try simp only [Act.put, List.getElem_toArray, List.getElem_cons_zero, List.getElem_cons_succ, List.setIfInBounds_toArray, List.set_cons_zero, List.set_cons_succ]
    refine held_take (i := 7) (v := x7) rfl (by kernel_rfl) (by kernel_rfl) (by kernel_rfl) (by kernel_rfl) (fun _ _ _ h => h) (Or.inl ⟨by rfl, ?d6⟩) hHeld ?_
    case d6 =>
      intro wS hSw
      refine exec_slice (.tmp 20) none (some (.tmp 21)) v x7 none (some (.int .i64 (ia : Int))) ?_ ?_ ?_ ?_ (HX7.out wS)
      all_goals first | rfl | kernel_rfl
    try simp only [Act.put, List.getElem_toArray, List.getElem_cons_zero, List.getElem_cons_succ, List.setIfInBounds_toArray, List.set_cons_zero, List.set_cons_succ]
    refine held_take (i := 9) (v := ?_) rfl (by kernel_rfl) (by kernel_rfl) (by kernel_rfl) (by kernel_rfl) (fun _ _ _ h => h) (Or.inl ⟨by rfl, ?d7⟩) hHeld ?_
    case d7 =>
      intro wS hSw
      have k0 := hSw
      go_simp
      try with_reducible rfl
    try simp only [Act.put, List.getElem_toArray, List.getElem_cons_zero, List.getElem_cons_succ, List.setIfInBounds_toArray, List.set_cons_zero, List.set_cons_succ]
    refine held_take (i := 10) (v := ?_) rfl (by kernel_rfl) (by kernel_rfl) (by kernel_rfl) (by kernel_rfl) (fun _ _ _ h => h) (Or.inl ⟨by rfl, ?d8⟩) hHeld ?_
    case d8 =>
      intro wS hSw
      have k0 := hSw
      go_simp
      try with_reducible rfl
    try simp only [Act.put, List.getElem_toArray, List.getElem_cons_zero, List.getElem_cons_succ, List.setIfInBounds_toArray, List.set_cons_zero, List.set_cons_succ]
    refine held_take (i := 11) (v := ?_) rfl (by kernel_rfl) (by kernel_rfl) (by kernel_rfl) (by kernel_rfl) (fun _ _ _ h => h) (Or.inl ⟨by rfl, ?d9⟩) hHeld ?_
    case d9 =>
      intro wS hSw
      have k0 := hSw
      go_simp
      try with_reducible rfl
    try simp only [Act.put, List.getElem_toArray, List.getElem_cons_zero, List.getElem_cons_succ, List.setIfInBounds_toArray, List.set_cons_zero, List.set_cons_succ]
    refine held_take (i := 12) (v := ?_) rfl (by kernel_rfl) (by kernel_rfl) (by kernel_rfl) (by kernel_rfl) (fun _ _ _ h => h) (Or.inl ⟨by rfl, ?d10⟩) hHeld ?_
    case d10 =>
      intro wS hSw
      have k0 := hSw
      go_simp
      try with_reducible rfl
    try simp only [Act.put, List.getElem_toArray, List.getElem_cons_zero, List.getElem_cons_succ, List.setIfInBounds_toArray, List.set_cons_zero, List.set_cons_succ]
    refine held_take (i := 13) (v := ?_) rfl (by kernel_rfl) (by kernel_rfl) (by kernel_rfl) (by kernel_rfl) (fun _ _ _ h => h) (Or.inl ⟨by rfl, ?d11⟩) hHeld ?_
    case d11 =>
      intro wS hSw
      have k0 := hSw
      go_simp
      try with_reducible rfl
    try simp only [Act.put, List.getElem_toArray, List.getElem_cons_zero, List.getElem_cons_succ, List.setIfInBounds_toArray, List.set_cons_zero, List.set_cons_succ]
    refine held_take (i := 14) (v := ?_) rfl (by kernel_rfl) (by kernel_rfl) (by kernel_rfl) (by kernel_rfl) (fun _ _ _ h => h) (Or.inl ⟨by rfl, ?d12⟩) hHeld ?_
    case d12 =>
      intro wS hSw
      have k0 := hSw
      go_simp
      try with_reducible rfl
    try simp only [Act.put, List.getElem_toArray, List.getElem_cons_zero, List.getElem_cons_succ, List.setIfInBounds_toArray, List.set_cons_zero, List.set_cons_succ]
    refine held_take (i := 15) (v := x15) rfl (by kernel_rfl) (by kernel_rfl) (by kernel_rfl) (by kernel_rfl) (fun _ _ _ h => h) (Or.inl ⟨by rfl, ?d13⟩) hHeld ?_
    case d13 =>
      intro wS hSw
      refine exec_slice (.tmp 27) (some (.tmp 29)) none v x15 (some (.int .i64 (IntKind.i64.wrap ((ia : Int) + 1)))) none ?_ ?_ ?_ ?_ (HX15.out wS)
      all_goals first | rfl | kernel_rfl
    try simp only [Act.put, List.getElem_toArray, List.getElem_cons_zero, List.getElem_cons_succ, List.setIfInBounds_toArray, List.set_cons_zero, List.set_cons_succ]
    refine held_ready (rs := [1]) (by kernel_rfl) (by simp) ?_
    refine AllHeld.cons rfl (fun K hK => ?_) AllHeld.nil
    refine step_wp rfl ?_
    refine wp_none 27 49 i0 _ rfl Tryz.underlying27 hi0 hz0 hz1 ?_
    intro x1 wa ho1 hg1 hx1
    have hx1 : ∀ b, x1.ownBlock = some b → b = w1.heap.size := hx1
    have HBA : Hid (Below w1.heap.size w1 wa) := Lib.hid ((Below.refl _ _).drew.grown hg1 (Nat.le_refl _) (fun k hk => nomatch hk))
    have ka := KR.out wa HBA.out
    refine hK.out _ _ (fun _ => ka) (fun hHeld => ?_)
    clear hK K
    have hHeld := hHeld (by decide)
    try simp only [Act.put, List.getElem_toArray, List.getElem_cons_zero, List.getElem_cons_succ, List.setIfInBounds_toArray, List.set_cons_zero, List.set_cons_succ]
    refine held_ready (rs := [8]) (by kernel_rfl) (by simp) ?_
    refine AllHeld.cons rfl (fun K hK => ?_) AllHeld.nil
    refine step_wp rfl ?_
    refine wp_append_holds (.tmp 16) (.tmp 22) 27 rfl w1.heap.size 49 i0 _ 88 Tryz.underlying27 hi0 hz0 hz1 hz2 hz3 x1 0 [] ?ap ho1 x7 ia (cellsS (L.take ia)) ?bp (H7.out.below HBA.out HX7B.out) ?cp ?dp ?ep ?fp ?gp ?hp
    case ap => rfl
    case bp => rfl
    case cp => exact HL1.out
    case dp => exact cellsS_one
    case ep => unfold maxLen; omega
    case fp => omega
    case gp => exact HBA.out.size
    intro x8 wb ho8 hg8 hx8
    have HBB : Hid (Below w1.heap.size w1 wb) := Lib.hid (HBA.out.grown hg8 HBA.out.size (fun k hk => by have := hx1 k hk; omega))
    have hge8 : ∀ b, x8.ownBlock = some b → w1.heap.size ≤ b := fun b hb => by rcases hx8 with e | e; (rw [e] at hb; have := hx1 b hb; omega); (rw [e] at hb; injection hb with hb; have := HBA.out.size; omega)
    have ka := KR.out wb HBB.out
    refine hK.out _ _ (fun _ => ka) (fun hHeld => ?_)
    clear hK K
    have hHeld := hHeld (by decide)
    try simp only [Act.put, List.getElem_toArray, List.getElem_cons_zero, List.getElem_cons_succ, List.setIfInBounds_toArray, List.set_cons_zero, List.set_cons_succ]
    refine held_ready (rs := [16]) (by kernel_rfl) (by simp) ?_
    refine AllHeld.cons rfl (fun K hK => ?_) AllHeld.nil
    refine step_wp rfl ?_
    refine wp_append_holds (.tmp 23) (.tmp 30) 27 rfl w1.heap.size 49 i0 _ 88 Tryz.underlying27 hi0 hz0 hz1 hz2 hz3 x8 (0 + ia) ([] ++ cellsS (L.take ia)) ?aq ho8 x15 (L.length - (ia + 1)) (cellsS (L.drop (ia + 1))) ?bq (H15.out.below HBB.out HX15B.out) ?cq ?dq ?eq ?fq ?gq ?hq
    case aq => rfl
    case bq => rfl
    case cq => exact HL2.out
    case dq => exact cellsS_one
    case eq => unfold maxLen; omega
    case fq => omega
    case gq => exact HBB.out.size
    intro x16 wc ho16 hg16 hx16
    have HBC : Hid (Below w1.heap.size w1 wc) := Lib.hid (HBB.out.grown hg16 HBB.out.size (fun k hk => hge8 k hk))
    obtain ⟨a16, c16, rfl⟩ := rowS_slice ho16
    have ka := KR.out wc HBC.out
    have kf : wc.frozen? ⟨r, 0, none⟩ = false := KF.out wc HBC.out
    refine hK.out _ _ (fun _ => ka) (fun hHeld => ?_)
    clear hK K
    have hHeld := hHeld (by decide)
    try simp only [Act.put, List.getElem_toArray, List.getElem_cons_zero, List.getElem_cons_succ, List.setIfInBounds_toArray, List.set_cons_zero, List.set_cons_succ]
    refine held_ready (rs := [17]) (by kernel_rfl) (by simp) ?_
    refine AllHeld.cons rfl (fun K hK => ?_) AllHeld.nil
    go_simp
    refine hK.out _ _ (fun _ => ka) (fun hHeld => ?_)
    clear hK K
    have hHeld := hHeld (by decide)
    try simp only [Act.put, List.getElem_toArray, List.getElem_cons_zero, List.getElem_cons_succ, List.setIfInBounds_toArray, List.set_cons_zero, List.set_cons_succ]
    refine held_ready (rs := [18]) (by kernel_rfl) (by simp) ?_
    refine AllHeld.cons rfl (fun K hK => ?_) AllHeld.nil
    go_simp
    refine hK.out _ _ (fun _ => ka) (fun hHeld => ?_)
    clear hK K
    have hHeld := hHeld (by decide)
    try simp only [Act.put, List.getElem_toArray, List.getElem_cons_zero, List.getElem_cons_succ, List.setIfInBounds_toArray, List.set_cons_zero, List.set_cons_succ]
    refine held_ready (rs := [19]) (by kernel_rfl) (by simp) ?_
    refine AllHeld.cons rfl (fun K hK => ?_) AllHeld.nil
    go_simp
    refine hK.out _ _ (fun h => absurd rfl h) (fun _ => ?_)
    clear hK K
    try simp only [Act.put, List.getElem_toArray, List.getElem_cons_zero, List.getElem_cons_succ, List.setIfInBounds_toArray, List.set_cons_zero, List.set_cons_succ]
    refine held_done (by kernel_rfl) ?_ _
    clear hHeld
    try simp only [Act.put, List.getElem_toArray, List.getElem_cons_zero, List.getElem_cons_succ, List.setIfInBounds_toArray, List.set_cons_zero, List.set_cons_succ]
    go_wp2
    go_ret
    rw [Nat.zero_add] at ho16
    have hlen : L'.length = ia + (L.length - (ia + 1)) := by rw [HRM.out, List.length_append, List.length_take, List.length_drop]; omega
    have hcs : cellsS L' = [] ++ cellsS (L.take ia) ++ cellsS (L.drop (ia + 1)) := by rw [HRM.out, cellsS_append, List.nil_append]
    refine rxPost_new H.out (HB1.out.trans (HBC.out.mono HB1.out.size)) rfl HB1.out.size ?_ HS.out (fun e he => H.out.fits e (HSUB.out.mem he)) (Nat.le_trans HSUB.out.length_le hll)
    rw [hlen, hcs]
    exact ho16
end Go.Proofs.YtpbhkaokgpacoaaGreatDoor.St
