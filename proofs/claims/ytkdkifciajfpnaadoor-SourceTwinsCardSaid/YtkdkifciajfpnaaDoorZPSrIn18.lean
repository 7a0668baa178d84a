import Derived.Test.YtkdkifciajfpnaaDoorZPSrClear
import Derived.Test.YtkdkifciajfpnaaDoorZPStIn
set_option linter.unusedSimpArgs false
set_option linter.unusedVariables false
/-
  The contract of munimentlaw18's in: attributes as the program's, with a list of their own, and a mark behind it.
-/
namespace Go.Proofs.YtkdkifciajfpnaaDoor.Sr
open Go.RowKit Go.Maps Go.WideMaps Go.Proofs.YtkdkifciajfpnaaDoor.Rf Go.Proofs.YtkdkifciajfpnaaDoor.Nm Go.Proofs.YtkdkifciajfpnaaDoor.St

theorem xs_front {w : World} {a : Option Addr} {m c : Nat} {xs : Xs} {z : List UInt8 × List UInt8} (h : XsAt w (.slice a m c) (xs ++ [z])) : XsAt w (.slice a xs.length c) xs ∧ ∀ b ∈ xob xs (.slice a xs.length c), b ∈ xob (xs ++ [z]) (.slice a m c) := by
  obtain ⟨a', c', hv, h1, h2, h3⟩ := h
  injection hv with e1 _ e3
  subst e1 e3
  refine ⟨⟨a, c, rfl, by rw [List.length_append] at h1; exact Nat.le_trans (Nat.le_add_right _ _) h1, fun x hx => h2 x (List.mem_append_left _ hx), fun _ => ?_⟩, fun b hb => ?_⟩
  · obtain ⟨b, o, rfl, hb, hc⟩ := h3 (by simp)
    exact ⟨b, o, rfl, hb, fun i x hx => hc i x (by rw [List.getElem?_append_left (List.getElem?_eq_some_iff.1 hx).1]; exact hx)⟩
  · cases xs with
    | nil => simp [xob] at hb
    | cons y r =>
      obtain ⟨b', o, rfl, _, _⟩ := h3 (by simp)
      simpa [xob] using hb
def InPost (w : World) (A : XA) (e : Ending) (w' : World) : Prop := ∃ v', e = .returned (.agg (A.cells v').toArray) ∧ XsAt w' v' A.xs ∧ (∀ b ∈ xob A.xs v', w.heap.size ≤ b) ∧ Below w.heap.size w w'
set_option linter.unusedSimpArgs false in
set_option maxHeartbeats 8000000 in
set_option maxRecDepth 100000 in
theorem in18_any (w : World) (A : XA) (v : Value) (hv : XsAt w v A.xs) (hz : A.xs.length * 32 ≤ 140737488351232) :
    Calls Tryd.prog 17 #[.agg (A.cells v).toArray] w (InPost w A) := by
  obtain ⟨i0, hi0, hz0, hz1, hz2⟩ := info_parts infoXa
  have hz3 : (Value.agg #[.string ⟨#[]⟩, .string ⟨#[]⟩]).cells.size = 2 := by kernel_rfl
  obtain ⟨W, hW⟩ : ∃ W, W = (w.alloc (.cells (A.cells v).toArray 26)).alloc (.cells (zeroA.cells (.slice none 0 0)).toArray AtT) := ⟨_, rfl⟩
  have hb0 : Below w.heap.size w W := by rw [hW]; exact ((Below.refl _ _).alloc (Nat.le_refl _) _).alloc (by rw [one_size]; omega) _
  have hq0 : W.heap[w.heap.size]? = some (.cells (A.cells v).toArray 26) := by rw [hW]; exact at_alloc (MapKept.heap_alloc w _).1 _
  have hr0 : W.heap[w.heap.size + 1]? = some (.cells (zeroA.cells (.slice none 0 0)).toArray AtT) := by
    have := (MapKept.heap_alloc (w.alloc (.cells (A.cells v).toArray 26)) (.cells (zeroA.cells (.slice none 0 0)).toArray AtT)).1
    rw [one_size] at this
    rw [hW]; exact this
  obtain ⟨xs, hxs⟩ : ∃ xs, xs = A.xs := ⟨_, rfl⟩
  have HXE := Lib.hid hxs
  obtain ⟨xa, xc, rfl, hxm, hxl, hxc⟩ := hv
  rw [← hxs] at hxm hxl hxc hz hq0 hW
  have KZ : Hid (∀ w', Below W.heap.size W w' → w'.heap[w.heap.size + 1]? = some (.cells (zeroA.cells (.slice none 0 0)).toArray AtT)) := Lib.hid (fun w' hb => (hb.block _ (lt_of_heap hr0)).trans hr0)
  have K6 : Hid (∀ w', Below W.heap.size W w' → w'.cell? ⟨w.heap.size, 6, none⟩ = some (.slice xa xs.length xc)) := Lib.hid (fun w' hb => cell_of_heap ((hb.block _ (lt_of_heap hq0)).trans hq0))
  have KA : Hid (∀ w', Below W.heap.size W w' → w'.cell? ⟨w.heap.size, 0, none⟩ = some (.int .u8 (A.node : Int)) ∧ w'.cell? ⟨w.heap.size, 1, none⟩ = some (.int .u32 (A.mode : Int)) ∧ w'.cell? ⟨w.heap.size, 2, none⟩ = some (.int .u32 (A.uid : Int)) ∧ w'.cell? ⟨w.heap.size, 3, none⟩ = some (.int .u32 (A.gid : Int)) ∧ w'.cell? ⟨w.heap.size, 4, none⟩ = some (.int .i64 A.mtime) ∧ w'.cell? ⟨w.heap.size, 5, none⟩ = some (.string ⟨A.target.toArray⟩)) := Lib.hid (fun w' hb => by
    have h0 := (hb.block _ (lt_of_heap hq0)).trans hq0
    exact ⟨cell_of_heap h0, cell_of_heap h0, cell_of_heap h0, cell_of_heap h0, cell_of_heap h0, cell_of_heap h0⟩)
  have KA8 : Hid (∀ w0 w' : World, Below W.heap.size W w0 → Turn [w.heap.size + 1] w0 w' → w'.cell? ⟨w.heap.size, 0, none⟩ = some (.int .u8 (A.node : Int)) ∧ w'.cell? ⟨w.heap.size, 1, none⟩ = some (.int .u32 (A.mode : Int)) ∧ w'.cell? ⟨w.heap.size, 2, none⟩ = some (.int .u32 (A.uid : Int)) ∧ w'.cell? ⟨w.heap.size, 3, none⟩ = some (.int .u32 (A.gid : Int)) ∧ w'.cell? ⟨w.heap.size, 4, none⟩ = some (.int .i64 A.mtime) ∧ w'.cell? ⟨w.heap.size, 5, none⟩ = some (.string ⟨A.target.toArray⟩)) := Lib.hid (fun w0 w' hb0 ht => by
    have h1 := (hb0.block _ (lt_of_heap hq0)).trans hq0
    have h0 := (ht.block _ (lt_of_heap h1) (by simp)).trans h1
    exact ⟨cell_of_heap h0, cell_of_heap h0, cell_of_heap h0, cell_of_heap h0, cell_of_heap h0, cell_of_heap h0⟩)
  have HQ0 := Lib.hid hq0; have HB0 := Lib.hid hb0; have HW := Lib.hid hW; have HXL := Lib.hid hxl; have HXC := Lib.hid hxc
  have hbs : ∀ w, (Instr.buildSlice 40 1 #[(0, .agg #[.string ⟨#[109, 97, 114, 107]⟩, .string ⟨#[]⟩])]).run Tryd.prog w = .ok (.slice (some ⟨w.heap.size, 0, none⟩) 1 1) (w.alloc (.cells #[.string ⟨#[109, 97, 114, 107]⟩, .string ⟨#[]⟩] 78)) := fun w =>
    run_buildOneN 2 (by decide) (by decide) w _ _ i0 _ (xpair ([109, 97, 114, 107], [])) Tryd.underlying40 hi0 hz0 hz1 rfl
  have HBS := Lib.hid hbs
  unfold maxLen at hxm
  clear hb0 hq0 hr0 hW hxl hxc hxs hbs
  go_enter Tryd.func17, Tryd.ntmps17
  go_wp2
  have he : A.cells (.slice xa A.xs.length xc) = A.cells (.slice xa xs.length xc) := by rw [HXE.out]
  rw [he]
  change Code.wp _ _ _ _ ((w.alloc (.cells (A.cells (.slice xa xs.length xc)).toArray 26)).alloc (.cells (zeroA.cells (.slice none 0 0)).toArray AtT))
  rw [← HW.out]
  clear he
  go_loopw [3, 4] (fun v3 v4 wr => ∃ i : Nat, i ≤ xs.length ∧ v4 = .int .i64 (i : Int) ∧ ∃ va vc, v3 = .slice va i vc ∧ Hid (wr.ownsRow W.heap.size 78 2 (.slice va i vc) i (xcells (xs.take i))) ∧ Hid (Below W.heap.size W wr)) (fun _ v4 _ => xs.length - (RowKit.intOf v4).toNat)
  case atStart => exact ⟨0, by omega, rfl, none, 0, rfl, Lib.hid (rowS_nil _ _ _ _), Lib.hid (Below.refl _ _)⟩
  case round =>
    obtain ⟨i, hi, rfl, va, vc, rfl, HO, HB⟩ := hrel
    have c6 := K6.out _ HB.out
    by_cases hil : (i : Int) < (xs.length : Int)
    · have hi2 : i < xs.length := by omega
      obtain ⟨x, hx⟩ : ∃ x, xs[i]? = some x := ⟨_, List.getElem?_eq_getElem hi2⟩
      obtain ⟨b, o, rfl, hb, hcl⟩ := HXC.out (fun h => by rw [h] at hi2; cases hi2)
      have KS : Hid (∀ w', Below W.heap.size W w' → w'.cell? ⟨w.heap.size, 6, none⟩ = some (.slice (some ⟨b, o, none⟩) xs.length xc) ∧ w'.cell? ⟨b, o + i * 2, none⟩ = some (.string ⟨x.1.toArray⟩) ∧ w'.cell? ⟨b, o + i * 2 + 1, none⟩ = some (.string ⟨x.2.toArray⟩)) := Lib.hid (fun w' hw => by
        obtain ⟨c1, c2⟩ := hcl i x hx
        have hb2 := HB0.out.trans (hw.mono HB0.out.size)
        exact ⟨K6.out w' hw, (World.cell?_of_block (a := ⟨b, o + i * 2, none⟩) (hb2.block b hb)).trans c1, (World.cell?_of_block (a := ⟨b, o + i * 2 + 1, none⟩) (hb2.block b hb)).trans c2⟩)
      have HTK : Hid (xcells (xs.take (i + 1)) = xcells (xs.take i) ++ xpair x) := Lib.hid (by rw [List.take_add_one, hx, xcells_app]; rfl)
      clear hcl hx
      go_wp2
      refine wp_region_held_drew (S := (fun w' : World => w'.cell? ⟨w.heap.size, 6, none⟩ = some (.slice (some ⟨b, o, none⟩) xs.length xc) ∧ w'.cell? ⟨b, o + i * 2, none⟩ = some (.string ⟨x.1.toArray⟩) ∧ w'.cell? ⟨b, o + i * 2 + 1, none⟩ = some (.string ⟨x.2.toArray⟩))) (by kernel_rfl) (KS.out _ HB.out.drew) (fun hHeld => ?_)
      refine wpAnyH_take (i := 0) (v := ?_) rfl (by kernel_rfl) (by kernel_rfl) (by kernel_rfl) (fun _ _ _ h => h) (Or.inl ⟨by rfl, ?ia0⟩) hHeld ?_
      case ia0 =>
        intro wS hSw
        obtain ⟨k0, k1, k2⟩ := hSw
        go_simp
        try with_reducible rfl
      try simp only [Act.put, List.getElem_toArray, List.getElem_cons_zero, List.getElem_cons_succ, List.setIfInBounds_toArray, List.set_cons_zero, List.set_cons_succ]
      refine wpAnyH_take (i := 1) (v := ?_) rfl (by kernel_rfl) (by kernel_rfl) (by kernel_rfl) (fun _ _ _ h => h) (Or.inl ⟨by rfl, ?ia1⟩) hHeld ?_
      case ia1 =>
        intro wS hSw
        obtain ⟨k0, k1, k2⟩ := hSw
        go_simp
        try with_reducible rfl
      try simp only [Act.put, List.getElem_toArray, List.getElem_cons_zero, List.getElem_cons_succ, List.setIfInBounds_toArray, List.set_cons_zero, List.set_cons_succ]
      refine wpAnyH_take (i := 2) (v := ?_) rfl (by kernel_rfl) (by kernel_rfl) (by kernel_rfl) (fun _ _ _ h => h) (Or.inl ⟨by rfl, ?ia2⟩) hHeld ?_
      case ia2 =>
        intro wS hSw
        obtain ⟨k0, k1, k2⟩ := hSw
        go_simp
        try with_reducible rfl
      try simp only [Act.put, List.getElem_toArray, List.getElem_cons_zero, List.getElem_cons_succ, List.setIfInBounds_toArray, List.set_cons_zero, List.set_cons_succ]
      refine wpAnyH_take (i := 3) (v := ?_) rfl (by kernel_rfl) (by kernel_rfl) (by kernel_rfl) (fun _ _ _ h => h) (Or.inl ⟨by rfl, ?ia3⟩) hHeld ?_
      case ia3 =>
        intro wS hSw
        obtain ⟨k0, k1, k2⟩ := hSw
        go_simp
        try with_reducible rfl
      try simp only [Act.put, List.getElem_toArray, List.getElem_cons_zero, List.getElem_cons_succ, List.setIfInBounds_toArray, List.set_cons_zero, List.set_cons_succ]
      refine wpAnyH_take (i := 4) (v := ?_) rfl (by kernel_rfl) (by kernel_rfl) (by kernel_rfl) (fun _ _ _ h => h) (Or.inl ⟨by rfl, ?ia4⟩) hHeld ?_
      case ia4 =>
        intro wS hSw
        obtain ⟨k0, k1, k2⟩ := hSw
        go_simp
        try with_reducible rfl
      try simp only [Act.put, List.getElem_toArray, List.getElem_cons_zero, List.getElem_cons_succ, List.setIfInBounds_toArray, List.set_cons_zero, List.set_cons_succ]
      refine wpAnyH_take (i := 5) (v := ?_) rfl (by kernel_rfl) (by kernel_rfl) (by kernel_rfl) (fun _ _ _ h => h) (Or.inl ⟨by rfl, ?ia5⟩) hHeld ?_
      case ia5 =>
        intro wS hSw
        obtain ⟨k0, k1, k2⟩ := hSw
        go_simp
        try with_reducible rfl
      try simp only [Act.put, List.getElem_toArray, List.getElem_cons_zero, List.getElem_cons_succ, List.setIfInBounds_toArray, List.set_cons_zero, List.set_cons_succ]
      refine wpAnyH_take (i := 6) (v := ?_) rfl (by kernel_rfl) (by kernel_rfl) (by kernel_rfl) (fun _ _ _ h => h) (Or.inl ⟨by rfl, ?ia6⟩) hHeld ?_
      case ia6 =>
        intro wS hSw
        obtain ⟨k0, k1, k2⟩ := hSw
        go_simp
        try with_reducible rfl
      try simp only [Act.put, List.getElem_toArray, List.getElem_cons_zero, List.getElem_cons_succ, List.setIfInBounds_toArray, List.set_cons_zero, List.set_cons_succ]
      refine wpAnyH_take (i := 7) (v := ?_) rfl (by kernel_rfl) (by kernel_rfl) (by kernel_rfl) (fun _ _ _ h => h) (Or.inl ⟨by rfl, ?ia7⟩) hHeld ?_
      case ia7 =>
        intro wS hSw
        obtain ⟨k0, k1, k2⟩ := hSw
        go_simp
        try with_reducible rfl
      try simp only [Act.put, List.getElem_toArray, List.getElem_cons_zero, List.getElem_cons_succ, List.setIfInBounds_toArray, List.set_cons_zero, List.set_cons_succ]
      refine wpAnyH_take (i := 8) (v := ?_) rfl (by kernel_rfl) (by kernel_rfl) (by kernel_rfl) (fun _ _ _ h => h) (Or.inl ⟨by rfl, ?ia8⟩) hHeld ?_
      case ia8 =>
        intro wS hSw
        obtain ⟨k0, k1, k2⟩ := hSw
        go_simp
        try with_reducible rfl
      try simp only [Act.put, List.getElem_toArray, List.getElem_cons_zero, List.getElem_cons_succ, List.setIfInBounds_toArray, List.set_cons_zero, List.set_cons_succ]
      refine wpAnyH_take (i := 9) (v := ?_) rfl (by kernel_rfl) (by kernel_rfl) (by kernel_rfl) (fun _ _ _ h => h) (Or.inl ⟨by rfl, ?ia9⟩) hHeld ?_
      case ia9 =>
        intro wS hSw
        obtain ⟨k0, k1, k2⟩ := hSw
        go_simp
        try with_reducible rfl
      try simp only [Act.put, List.getElem_toArray, List.getElem_cons_zero, List.getElem_cons_succ, List.setIfInBounds_toArray, List.set_cons_zero, List.set_cons_succ]
      refine wpAnyH_take (i := 10) (v := ?_) rfl (by kernel_rfl) (by kernel_rfl) (by kernel_rfl) (fun _ _ _ h => h) (Or.inl ⟨by rfl, ?ia10⟩) hHeld ?_
      case ia10 =>
        intro wS hSw
        obtain ⟨k0, k1, k2⟩ := hSw
        go_simp
        try with_reducible rfl
      try simp only [Act.put, List.getElem_toArray, List.getElem_cons_zero, List.getElem_cons_succ, List.setIfInBounds_toArray, List.set_cons_zero, List.set_cons_succ]
      refine wpAnyH_take (i := 11) (v := ?_) rfl (by kernel_rfl) (by kernel_rfl) (by kernel_rfl) (fun _ _ _ h => h) (Or.inl ⟨by rfl, ?ia11⟩) hHeld ?_
      case ia11 =>
        intro wS hSw
        obtain ⟨k0, k1, k2⟩ := hSw
        go_simp
        try with_reducible rfl
      try simp only [Act.put, List.getElem_toArray, List.getElem_cons_zero, List.getElem_cons_succ, List.setIfInBounds_toArray, List.set_cons_zero, List.set_cons_succ]
      refine wpAnyH_take (i := 12) (v := ?_) rfl (by kernel_rfl) (by kernel_rfl) (by kernel_rfl) (fun _ _ _ h => h) (Or.inl ⟨by rfl, ?ia12⟩) hHeld ?_
      case ia12 =>
        intro wS hSw
        obtain ⟨k0, k1, k2⟩ := hSw
        go_simp
        try with_reducible rfl
      try simp only [Act.put, List.getElem_toArray, List.getElem_cons_zero, List.getElem_cons_succ, List.setIfInBounds_toArray, List.set_cons_zero, List.set_cons_succ]
      refine wpAnyH_take (i := 13) (v := ?_) rfl (by kernel_rfl) (by kernel_rfl) (by kernel_rfl) (fun _ _ _ h => h) (Or.inl ⟨by rfl, ?ia13⟩) hHeld ?_
      case ia13 =>
        intro wS hSw
        obtain ⟨k0, k1, k2⟩ := hSw
        go_simp
        try with_reducible rfl
      try simp only [Act.put, List.getElem_toArray, List.getElem_cons_zero, List.getElem_cons_succ, List.setIfInBounds_toArray, List.set_cons_zero, List.set_cons_succ]
      refine wpAnyH_ready (rs := [14]) (by kernel_rfl) (by simp) ?_
      refine AllReadyH.cons rfl (fun K hK => ?_) AllReadyH.nil
      refine step_wp rfl ?_
      refine wp_oneN 2 (by decide) (by decide) 40 78 (.tmp 26) (xpair x) i0 _ rfl ?xo1 Tryd.underlying40 hi0 hz0 hz1 rfl ?_
      case xo1 => rfl
      have HB5 := Lib.hid (HB.out.drew.alloc HB.out.size (.cells (xpair x).toArray 78))
      obtain ⟨w5, hw5⟩ : ∃ w5, w5 = wr.drew.alloc (.cells (xpair x).toArray 78) := ⟨_, rfl⟩
      have HQ5 : Hid (w5.heap[wr.heap.size]? = some (.cells (xpair x).toArray 78)) := Lib.hid (by rw [hw5]; exact (MapKept.heap_alloc wr.drew _).1)
      have HO5 : Hid (w5.ownsRow W.heap.size 78 2 (.slice va i vc) i (xcells (xs.take i))) := Lib.hid (rowS_kept HO.out (fun y _ hl => by rw [hw5]; exact ((Below.refl wr.heap.size wr).drew.alloc (Nat.le_refl _) _).block y hl))
      rw [← hw5] at HB5 ⊢
      clear hw5
      refine hK.out _ _ (KS.out _ HB5.out) (fun hHeld2 => ?_)
      clear hK K hHeld
      have hHeld := hHeld2
      clear hHeld2
      try simp only [Act.put, List.getElem_toArray, List.getElem_cons_zero, List.getElem_cons_succ, List.setIfInBounds_toArray, List.set_cons_zero, List.set_cons_succ]
      refine wpAnyH_ready (rs := [15]) (by kernel_rfl) (by simp) ?_
      refine AllReadyH.cons rfl (fun K hK => ?_) AllReadyH.nil
      refine step_wp rfl ?_
      refine wp_appendN 2 (by decide) (.tmp 13) (.tmp 27) 40 rfl W.heap.size 78 i0 _ 32 Tryd.underlying40 hi0 hz0 hz1 hz2 hz3 (.slice va i vc) i (xcells (xs.take i)) ?xa1 HO5.out ⟨wr.heap.size, 0, none⟩ 1 1 (xpair x) ?xa2 ?xa3 rfl (xpair_one x) ?xa4 ?xa5 HB5.out.size ?_
      case xa1 => rfl
      case xa2 => rfl
      case xa3 => intro j u hj; rw [Addr.add_lit, Nat.zero_add, cell_of_heap HQ5.out, List.getElem?_toArray]; exact hj
      case xa4 => unfold maxLen; omega
      case xa5 => omega
      intro v6 w6 ho6 hg6 hx6
      have HB6 : Hid (Below W.heap.size W w6) := Lib.hid (HB5.out.grown hg6 HB5.out.size (fun k hk => rowS_ge HO5.out k (by simp [ob, hk])))
      have HO6 : Hid (w6.ownsRow W.heap.size 78 2 v6 (i + 1) (xcells (xs.take (i + 1)))) := Lib.hid (by rw [HTK.out]; exact ho6)
      obtain ⟨a6, c6, rfl⟩ := rowS_slice ho6
      clear ho6 hg6 hx6
      refine hK.out _ _ (KS.out _ HB6.out) (fun hHeld2 => ?_)
      clear hK K hHeld
      have hHeld := hHeld2
      clear hHeld2
      try simp only [Act.put, List.getElem_toArray, List.getElem_cons_zero, List.getElem_cons_succ, List.setIfInBounds_toArray, List.set_cons_zero, List.set_cons_succ]
      refine wpAnyH_take (i := 16) (v := ?_) rfl (by kernel_rfl) (by kernel_rfl) (by kernel_rfl) (fun _ _ _ h => h) (Or.inl ⟨by rfl, ?ia16⟩) hHeld ?_
      case ia16 =>
        intro wS hSw
        obtain ⟨k0, k1, k2⟩ := hSw
        go_simp
        try with_reducible rfl
      try simp only [Act.put, List.getElem_toArray, List.getElem_cons_zero, List.getElem_cons_succ, List.setIfInBounds_toArray, List.set_cons_zero, List.set_cons_succ]
      refine wpAnyH_done (by kernel_rfl) ?_ _
      clear hHeld
      try simp only [Act.put, List.getElem_toArray, List.getElem_cons_zero, List.getElem_cons_succ, List.setIfInBounds_toArray, List.set_cons_zero, List.set_cons_succ]
      go_wp2
      go_roundw
      case rel => exact ⟨i + 1, by omega, by go_num, _, _, rfl, HO6, HB6⟩
      case measure => simp [RowKit.intOf]; omega
    · obtain rfl : i = xs.length := by omega
      have HO2 : Hid (wr.ownsRow W.heap.size 78 2 (.slice va xs.length vc) xs.length (xcells xs)) := Lib.hid (by have := HO.out; rw [List.take_length] at this; exact this)
      obtain ⟨n, hn⟩ : ∃ n, n = xs.length := ⟨_, rfl⟩
      rw [← hn] at HO2 hz hxm c6 ⊢
      have HN := Lib.hid hn
      clear hn
      have hbs := HBS.out
      obtain ⟨w5, hw5⟩ : ∃ w5, w5 = wr.alloc (.cells #[.string ⟨#[109, 97, 114, 107]⟩, .string ⟨#[]⟩] 78) := ⟨_, rfl⟩
      have HQ5 : Hid (w5.heap[wr.heap.size]? = some (.cells (xpair ([109, 97, 114, 107], [])).toArray 78)) := Lib.hid (by rw [hw5]; exact (MapKept.heap_alloc wr _).1)
      have HB5 : Hid (Below W.heap.size W w5) := Lib.hid (by rw [hw5]; exact HB.out.alloc HB.out.size _)
      have HO5 : Hid (w5.ownsRow W.heap.size 78 2 (.slice va n vc) n (xcells xs)) := Lib.hid (rowS_kept HO2.out (fun y _ hl => by rw [hw5]; exact ((Below.refl wr.heap.size wr).alloc (Nat.le_refl _) _).block y hl))
      have HOX : Hid ((wr.alloc (.cells #[.string ⟨#[109, 97, 114, 107]⟩, .string ⟨#[]⟩] 78)).ownsRow W.heap.size 78 2 (.slice va n vc) n (xcells xs)) := Lib.hid (by rw [← hw5]; exact HO5.out)
      have HMK : Hid (∀ (j : Nat) u, (xpair ([109, 97, 114, 107], []))[j]? = some u → (wr.alloc (.cells #[.string ⟨#[109, 97, 114, 107]⟩, .string ⟨#[]⟩] 78)).cell? ((⟨wr.heap.size, 0, none⟩ : Addr).add j) = some u) := Lib.hid (fun j u hj => by
        rw [← hw5, Addr.add_lit, Nat.zero_add, cell_of_heap HQ5.out, List.getElem?_toArray]; exact hj)
      have HW5 := Lib.hid hw5
      clear hw5 hil hi
      go_wp2_with (at_builtin; refine wpList_append_own_at _ rfl _ _ 40 rfl W.heap.size 78 i0 _ 2 32 Tryd.underlying40 hi0 hz0 hz1 hz2 hz3 (by decide) _ _ _ rfl HOX.out ⟨wr.heap.size, 0, none⟩ 1 1 (xpair ([109, 97, 114, 107], [])) rfl rfl HMK.out (xpair_one _) (by unfold maxLen; omega) (by omega) (by rw [← HW5.out]; exact HB5.out.size) ?_)
      rw [← HW5.out]
      intro v7 w7 ho7 hg7 hn7 hx7
      have HB7 : Hid (Below W.heap.size W w7) := Lib.hid (HB5.out.grown hg7 HB5.out.size (fun k hk => rowS_ge HO5.out k (by simp [ob, hk])))
      have ho7 : w7.ownsRow W.heap.size 78 2 v7 (xs ++ [([109, 97, 114, 107], [])]).length (xcells (xs ++ [([109, 97, 114, 107], [])])) := by
        rw [xcells_app, List.length_append, ← HN.out]; exact ho7
      obtain ⟨g7, c7, rfl, _, _, hc7, _⟩ := rowS_form ho7 (by simp)
      have HX7 := Lib.hid (xs_of_own ho7 (fun y hy => by
        rcases List.mem_append.1 hy with h1 | h1
        · exact HXL.out y h1
        · obtain rfl := List.mem_singleton.1 h1; exact ⟨by decide, by decide⟩))
      have hl7 : (xs ++ [([109, 97, 114, 107], [])]).length = n + 1 := by rw [List.length_append, ← HN.out]; rfl
      rw [hl7] at HX7 hc7 ⊢
      have hc8 : (n : Int) ≤ (c7 : Int) := by omega
      have hc9 : n ≤ c7 := by omega
      have HCU : Hid (c7 ≤ maxLen) := Lib.hid (by
        obtain ⟨_, ⟨h0, _⟩ | ⟨_, _, _, hv2, _, _, _, h2, _⟩⟩ := ho7
        · cases h0
        · injection hv2 with _ _ e3; rw [e3]; exact h2)
      clear ho7 hg7 hn7 hx7 hl7 hbs HOX HMK hc7 c6
      go_wp2
      refine wp_region_held_drew (S := (fun w' : World => w'.cell? ⟨w.heap.size, 0, none⟩ = some (.int .u8 (A.node : Int)) ∧ w'.cell? ⟨w.heap.size, 1, none⟩ = some (.int .u32 (A.mode : Int)) ∧ w'.cell? ⟨w.heap.size, 2, none⟩ = some (.int .u32 (A.uid : Int)) ∧ w'.cell? ⟨w.heap.size, 3, none⟩ = some (.int .u32 (A.gid : Int)) ∧ w'.cell? ⟨w.heap.size, 4, none⟩ = some (.int .i64 A.mtime) ∧ w'.cell? ⟨w.heap.size, 5, none⟩ = some (.string ⟨A.target.toArray⟩))) (by kernel_rfl) (KA.out _ HB7.out.drew) (fun hHeld => ?_)
      refine wpAnyH_take (i := 0) (v := ?_) rfl (by kernel_rfl) (by kernel_rfl) (by kernel_rfl) (fun _ _ _ h => h) (Or.inl ⟨by rfl, ?ib0⟩) hHeld ?_
      case ib0 =>
        intro wS hSw
        obtain ⟨k0, k1, k2, k3, k4, k5⟩ := hSw
        go_simp
        try with_reducible rfl
      try simp only [Act.put, List.getElem_toArray, List.getElem_cons_zero, List.getElem_cons_succ, List.setIfInBounds_toArray, List.set_cons_zero, List.set_cons_succ]
      refine wpAnyH_take (i := 1) (v := ?_) rfl (by kernel_rfl) (by kernel_rfl) (by kernel_rfl) (fun _ _ _ h => h) (Or.inl ⟨by rfl, ?ib1⟩) hHeld ?_
      case ib1 =>
        intro wS hSw
        obtain ⟨k0, k1, k2, k3, k4, k5⟩ := hSw
        go_simp
        try with_reducible rfl
      try simp only [Act.put, List.getElem_toArray, List.getElem_cons_zero, List.getElem_cons_succ, List.setIfInBounds_toArray, List.set_cons_zero, List.set_cons_succ]
      refine wpAnyH_take (i := 2) (v := ?_) rfl (by kernel_rfl) (by kernel_rfl) (by kernel_rfl) (fun _ _ _ h => h) (Or.inl ⟨by rfl, ?ib2⟩) hHeld ?_
      case ib2 =>
        intro wS hSw
        obtain ⟨k0, k1, k2, k3, k4, k5⟩ := hSw
        go_simp
        try with_reducible rfl
      try simp only [Act.put, List.getElem_toArray, List.getElem_cons_zero, List.getElem_cons_succ, List.setIfInBounds_toArray, List.set_cons_zero, List.set_cons_succ]
      refine wpAnyH_take (i := 3) (v := ?_) rfl (by kernel_rfl) (by kernel_rfl) (by kernel_rfl) (fun _ _ _ h => h) (Or.inl ⟨by rfl, ?ib3⟩) hHeld ?_
      case ib3 =>
        intro wS hSw
        obtain ⟨k0, k1, k2, k3, k4, k5⟩ := hSw
        go_simp
        try with_reducible rfl
      try simp only [Act.put, List.getElem_toArray, List.getElem_cons_zero, List.getElem_cons_succ, List.setIfInBounds_toArray, List.set_cons_zero, List.set_cons_succ]
      refine wpAnyH_take (i := 4) (v := ?_) rfl (by kernel_rfl) (by kernel_rfl) (by kernel_rfl) (fun _ _ _ h => h) (Or.inl ⟨by rfl, ?ib4⟩) hHeld ?_
      case ib4 =>
        intro wS hSw
        obtain ⟨k0, k1, k2, k3, k4, k5⟩ := hSw
        go_simp
        try with_reducible rfl
      try simp only [Act.put, List.getElem_toArray, List.getElem_cons_zero, List.getElem_cons_succ, List.setIfInBounds_toArray, List.set_cons_zero, List.set_cons_succ]
      refine wpAnyH_take (i := 5) (v := ?_) rfl (by kernel_rfl) (by kernel_rfl) (by kernel_rfl) (fun _ _ _ h => h) (Or.inl ⟨by rfl, ?ib5⟩) hHeld ?_
      case ib5 =>
        intro wS hSw
        obtain ⟨k0, k1, k2, k3, k4, k5⟩ := hSw
        go_simp
        try with_reducible rfl
      try simp only [Act.put, List.getElem_toArray, List.getElem_cons_zero, List.getElem_cons_succ, List.setIfInBounds_toArray, List.set_cons_zero, List.set_cons_succ]
      refine wpAnyH_take (i := 6) (v := ?_) rfl (by kernel_rfl) (by kernel_rfl) (by kernel_rfl) (fun _ _ _ h => h) (Or.inl ⟨by rfl, ?ib6⟩) hHeld ?_
      case ib6 =>
        intro wS hSw
        obtain ⟨k0, k1, k2, k3, k4, k5⟩ := hSw
        go_simp
        try with_reducible rfl
      try simp only [Act.put, List.getElem_toArray, List.getElem_cons_zero, List.getElem_cons_succ, List.setIfInBounds_toArray, List.set_cons_zero, List.set_cons_succ]
      refine wpAnyH_take (i := 7) (v := ?_) rfl (by kernel_rfl) (by kernel_rfl) (by kernel_rfl) (fun _ _ _ h => h) (Or.inl ⟨by rfl, ?ib7⟩) hHeld ?_
      case ib7 =>
        intro wS hSw
        obtain ⟨k0, k1, k2, k3, k4, k5⟩ := hSw
        go_simp
        try with_reducible rfl
      try simp only [Act.put, List.getElem_toArray, List.getElem_cons_zero, List.getElem_cons_succ, List.setIfInBounds_toArray, List.set_cons_zero, List.set_cons_succ]
      refine wpAnyH_take (i := 8) (v := ?_) rfl (by kernel_rfl) (by kernel_rfl) (by kernel_rfl) (fun _ _ _ h => h) (Or.inl ⟨by rfl, ?ib8⟩) hHeld ?_
      case ib8 =>
        intro wS hSw
        obtain ⟨k0, k1, k2, k3, k4, k5⟩ := hSw
        go_simp
        try with_reducible rfl
      try simp only [Act.put, List.getElem_toArray, List.getElem_cons_zero, List.getElem_cons_succ, List.setIfInBounds_toArray, List.set_cons_zero, List.set_cons_succ]
      refine wpAnyH_take (i := 9) (v := ?_) rfl (by kernel_rfl) (by kernel_rfl) (by kernel_rfl) (fun _ _ _ h => h) (Or.inl ⟨by rfl, ?ib9⟩) hHeld ?_
      case ib9 =>
        intro wS hSw
        obtain ⟨k0, k1, k2, k3, k4, k5⟩ := hSw
        go_simp
        try with_reducible rfl
      try simp only [Act.put, List.getElem_toArray, List.getElem_cons_zero, List.getElem_cons_succ, List.setIfInBounds_toArray, List.set_cons_zero, List.set_cons_succ]
      refine wpAnyH_take (i := 10) (v := ?_) rfl (by kernel_rfl) (by kernel_rfl) (by kernel_rfl) (fun _ _ _ h => h) (Or.inl ⟨by rfl, ?ib10⟩) hHeld ?_
      case ib10 =>
        intro wS hSw
        obtain ⟨k0, k1, k2, k3, k4, k5⟩ := hSw
        go_simp
        try with_reducible rfl
      try simp only [Act.put, List.getElem_toArray, List.getElem_cons_zero, List.getElem_cons_succ, List.setIfInBounds_toArray, List.set_cons_zero, List.set_cons_succ]
      refine wpAnyH_take (i := 11) (v := ?_) rfl (by kernel_rfl) (by kernel_rfl) (by kernel_rfl) (fun _ _ _ h => h) (Or.inl ⟨by rfl, ?ib11⟩) hHeld ?_
      case ib11 =>
        intro wS hSw
        obtain ⟨k0, k1, k2, k3, k4, k5⟩ := hSw
        go_simp
        try with_reducible rfl
      try simp only [Act.put, List.getElem_toArray, List.getElem_cons_zero, List.getElem_cons_succ, List.setIfInBounds_toArray, List.set_cons_zero, List.set_cons_succ]
      refine wpAnyH_take (i := 12) (v := ?_) rfl (by kernel_rfl) (by kernel_rfl) (by kernel_rfl) (fun _ _ _ h => h) (Or.inl ⟨by rfl, ?ib12⟩) hHeld ?_
      case ib12 =>
        intro wS hSw
        obtain ⟨k0, k1, k2, k3, k4, k5⟩ := hSw
        go_simp
        try with_reducible rfl
      try simp only [Act.put, List.getElem_toArray, List.getElem_cons_zero, List.getElem_cons_succ, List.setIfInBounds_toArray, List.set_cons_zero, List.set_cons_succ]
      refine wpAnyH_take (i := 13) (v := ?_) rfl (by kernel_rfl) (by kernel_rfl) (by kernel_rfl) (fun _ _ _ h => h) (Or.inl ⟨by rfl, ?ib13⟩) hHeld ?_
      case ib13 =>
        intro wS hSw
        obtain ⟨k0, k1, k2, k3, k4, k5⟩ := hSw
        go_simp
        try with_reducible rfl
      try simp only [Act.put, List.getElem_toArray, List.getElem_cons_zero, List.getElem_cons_succ, List.setIfInBounds_toArray, List.set_cons_zero, List.set_cons_succ]
      refine wpAnyH_take (i := 14) (v := ?_) rfl (by kernel_rfl) (by kernel_rfl) (by kernel_rfl) (fun _ _ _ h => h) (Or.inl ⟨by rfl, ?ib14⟩) hHeld ?_
      case ib14 =>
        intro wS hSw
        obtain ⟨k0, k1, k2, k3, k4, k5⟩ := hSw
        go_simp
        try with_reducible rfl
      try simp only [Act.put, List.getElem_toArray, List.getElem_cons_zero, List.getElem_cons_succ, List.setIfInBounds_toArray, List.set_cons_zero, List.set_cons_succ]
      refine wpAnyH_take (i := 15) (v := ?_) rfl (by kernel_rfl) (by kernel_rfl) (by kernel_rfl) (fun _ _ _ h => h) (Or.inl ⟨by rfl, ?ib15⟩) hHeld ?_
      case ib15 =>
        intro wS hSw
        obtain ⟨k0, k1, k2, k3, k4, k5⟩ := hSw
        go_simp
        try with_reducible rfl
      try simp only [Act.put, List.getElem_toArray, List.getElem_cons_zero, List.getElem_cons_succ, List.setIfInBounds_toArray, List.set_cons_zero, List.set_cons_succ]
      refine wpAnyH_ready (rs := [16]) (by kernel_rfl) (by simp) ?_
      refine AllReadyH.cons rfl (fun K hK => ?_) AllReadyH.nil
      refine step_wp rfl ?_
      refine wp_store_at (KZ.out _ HB7.out.drew) _ _ _ rfl (A.cells (.slice (some ⟨g7, 0, none⟩) n c7)).toArray rfl rfl (infoAt _ _) rfl (atOne A rfl) ?_
      intro w8 hq8 ht8 hs8
      have HQ8 := Lib.hid hq8; have HT8 := Lib.hid ht8; have HA8 := Lib.hid (KA8.out _ _ HB7.out.drew ht8)
      clear hq8 ht8 hs8
      refine hK.out _ _ HA8.out (fun hHeld2 => ?_)
      clear hK K hHeld
      have hHeld := hHeld2
      clear hHeld2
      try simp only [Act.put, List.getElem_toArray, List.getElem_cons_zero, List.getElem_cons_succ, List.setIfInBounds_toArray, List.set_cons_zero, List.set_cons_succ]
      refine wpAnyH_done (by kernel_rfl) ?_ _
      clear hHeld
      try simp only [Act.put, List.getElem_toArray, List.getElem_cons_zero, List.getElem_cons_succ, List.setIfInBounds_toArray, List.set_cons_zero, List.set_cons_succ]
      go_wp2
      refine bodyPost_ret (v := .agg (A.cells (.slice (some ⟨g7, 0, none⟩) n c7)).toArray) (results_cell_row (fn := Tryd.f17) rfl _ _ (w.heap.size + 1) _ _ _ _ rfl HQ8.out Tryd.underlying42 rfl (infoAt _ _)) rfl ?_
      obtain ⟨hxw, hob⟩ := HX7.out
      obtain ⟨hx1, hx2⟩ := xs_front hxw
      rw [← HN.out] at hx1 hx2
      have hsz : w.heap.size + 1 < W.heap.size := lt_of_heap (KZ.out W (Below.refl _ _))
      refine ⟨_, rfl, ?_, fun b hb => ?_, ?_⟩
      · rw [← HXE.out]
        refine hx1.kept HT8.out.size (fun b hb => HT8.out.block b (hx1.lt b hb) ?_)
        have := hob b (hx2 b hb)
        simp; omega
      · rw [← HXE.out] at hb
        have := hob b (hx2 b hb)
        omega
      · exact (HB0.out.trans (HB7.out.drew.mono HB0.out.size)).trans (HT8.out.below (by simp) (Nat.le_trans HB0.out.size HB7.out.size))
end Go.Proofs.YtkdkifciajfpnaaDoor.Sr
