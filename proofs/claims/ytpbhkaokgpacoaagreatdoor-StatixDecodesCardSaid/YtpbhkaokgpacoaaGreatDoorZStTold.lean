import Derived.Test.YtpbhkaokgpacoaaGreatDoorZStRefEncode
import Derived.Test.YtpbhkaokgpacoaaGreatDoorZStDec3
import Derived.Test.YtpbhkaokgpacoaaGreatDoorZStRefKeep
set_option linter.unusedSimpArgs false
set_option linter.unusedVariables false
/-
  All that an index tells is what the reference's says: the contract of told.
-/
namespace Go.Proofs.YtpbhkaokgpacoaaGreatDoor.St
open Go.RowKit Go.Maps Go.WideMaps Go.Proofs.YtpbhkaokgpacoaaGreatDoor.Rf Go.Proofs.YtpbhkaokgpacoaaGreatDoor.Rd

/-- While the first list is compared, and written over. -/
structure ToldA (w : World) (xv yv : Value) (L : List SE) (i : Nat) (wr : World) : Prop where
  one : ∃ C : List SE, C.length = L.length ∧ (∀ j e, i ≤ j → L[j]? = some e → C[j]? = some e) ∧ (∀ e ∈ C, e.id.length = 32) ∧ wr.ownsRow w.heap.size 44 38 xv L.length (cellsS C)
  two : wr.ownsRow w.heap.size 44 38 yv L.length (cellsS L)
  dis : ∀ x ∈ ob xv, x ∉ ob yv
  be : Below w.heap.size w wr
structure ToldB (w : World) (xv yv : Value) (L : List SE) (m : Nat) (wr : World) : Prop where
  one : ∃ C : List SE, C.length = m ∧ wr.ownsRow w.heap.size 44 38 xv m (cellsS C)
  two : wr.ownsRow w.heap.size 44 38 yv L.length (cellsS L)
  dis : ∀ x ∈ ob xv, x ∉ ob yv
  be : Below w.heap.size w wr
theorem ToldA.below {w : World} {xv yv : Value} {L : List SE} {i : Nat} {wr w' : World} (h : ToldA w xv yv L i wr) (hb : Below wr.heap.size wr w') : ToldA w xv yv L i w' := by
  obtain ⟨C, c1, c2, c3, c4⟩ := h.one
  exact ⟨⟨C, c1, c2, c3, rowS_kept c4 (fun x _ hl => hb.block x hl)⟩, rowS_kept h.two (fun x _ hl => hb.block x hl), h.dis, h.be.trans (hb.mono h.be.size)⟩
theorem ToldB.below {w : World} {xv yv : Value} {L : List SE} {i : Nat} {wr w' : World} (h : ToldB w xv yv L i wr) (hb : Below wr.heap.size wr w') : ToldB w xv yv L i w' := by
  obtain ⟨C, c1, c4⟩ := h.one
  exact ⟨⟨C, c1, rowS_kept c4 (fun x _ hl => hb.block x hl)⟩, rowS_kept h.two (fun x _ hl => hb.block x hl), h.dis, h.be.trans (hb.mono h.be.size)⟩
def spoilt : List UInt8 := [115, 112, 111, 105, 108, 116]
def behind : List UInt8 := [98, 101, 104, 105, 110, 100]
def onlyP (p : List UInt8) : SE := ⟨p, 0, 0, 0, 0, 0, List.replicate 32 0⟩
theorem ToldA.set {w : World} {g cap : Nat} {yv : Value} {L : List SE} {i : Nat} {wr : World} (h : ToldA w (.slice (some ⟨g, 0, none⟩) L.length cap) yv L i wr) (hi : i < L.length) (e : SE) (he : e.id.length = 32) :
    wr.there g (i * 38) 38 ∧ ToldA w (.slice (some ⟨g, 0, none⟩) L.length cap) yv L (i + 1) (wr.setCells g (i * 38) e.cells) := by
  obtain ⟨C, c1, c2, c3, c4⟩ := h.one
  obtain ⟨r1, r2⟩ := row_set (i := i) (e := e) c4 c1.symm c3 (by omega) he
  have hT := turn_setCells wr g (i * 38) e.cells
  refine ⟨r2, ⟨⟨C.set i e, by simp [c1], fun j x hj hx => ?_, fun x hx => ?_, r1⟩, rowS_kept h.two (fun x hx hl => hT.block x hl (fun hy => ?_)), h.dis, h.be.trans (hT.below (fun x hx => ?_) h.be.size)⟩⟩
  · rw [List.getElem?_set_ne (by omega)]; exact c2 j x (by omega) hx
  · rcases List.mem_or_eq_of_mem_set hx with hx | rfl
    · exact c3 x hx
    · exact he
  · simp at hy; subst hy; exact h.dis _ (by simp [ob, Value.ownBlock]) hx
  · simp at hx; subst hx; exact rowS_ge c4 _ (by simp [ob, Value.ownBlock])

set_option linter.unusedSimpArgs false in
set_option maxHeartbeats 16000000 in
set_option maxRecDepth 100000 in
theorem told_any (B : Nat) (w : World) (g b r : Nat) (v : Value) (L : List SE) (hI : IndexAt B w g b L) (hR : RefAt B w r v L) (hm : ∀ e ∈ L, mayN e = 0) :
    Calls Tryz.prog 25 #[ptr g, ptr r] w fun e w' => e = .returned (.bool true) ∧ Below w.heap.size w w' := by
  obtain ⟨va, vc, rfl⟩ := rowS_slice hR.row
  have hll := hI.len
  have HI := Lib.hid hI; have HR := Lib.hid hR; have HM := Lib.hid hm
  have AL := Lib.hid (all_any B w g b L hI)
  clear hI hR hm
  unfold ptr at *
  go_enter Tryz.func25, Tryz.ntmps25
  go_wp2_with fail
  refine AL.out.mono ?_
  rintro ex w1 ⟨xv, rfl, ho1, hb1⟩
  have HO1 := Lib.hid ho1; have HB1 := Lib.hid hb1
  have AL2 := Lib.hid (all_any B w1 g b L (HI.out.below hb1))
  unfold ptr at AL2
  clear ho1 hb1 AL
  go_wp2_with fail
  refine AL2.out.mono ?_
  rintro ex w2 ⟨yv, rfl, ho2, hb2⟩
  have HO2 := Lib.hid ho2; have HB2 := Lib.hid (HB1.out.trans (hb2.mono HB1.out.size)); have HB12 := Lib.hid hb2
  have EC := Lib.hid (encode_any B w2 g b L (HI.out.below HB2.out) HM.out)
  unfold ptr at EC
  clear ho2 hb2 AL2
  go_wp2_with fail
  refine EC.out.mono ?_
  rintro ex w3 ⟨rfl, hb3⟩
  have HB3 := Lib.hid (HB2.out.trans (hb3.mono HB2.out.size))
  have HTA : Hid (ToldA w xv yv L 0 w3) := Lib.hid (by
    have d : ∀ x ∈ ob xv, x ∉ ob yv := fun x hx hy => by
      have := rowS_lt HO1.out x hx; have := rowS_ge HO2.out x hy; omega
    refine ⟨⟨L, rfl, fun _ _ _ h => h, fitsId HI.out.fits, ?_⟩, ?_, d, HB3.out⟩
    · exact rowS_kept (rowS_kept HO1.out (fun x _ hl => HB12.out.block x hl)) (fun x _ hl => hb3.block x hl)
    · exact rowS_kept (row_mono HO2.out HB1.out.size) (fun x _ hl => hb3.block x hl))
  have HR3 := Lib.hid (HR.out.below HB3.out)
  have hc3 : w3.drew.cell? ⟨r, 0, none⟩ = some (.slice va L.length vc) := by rw [cell_of_heap (HR3.out.below ((Below.refl _ _).drew)).book]; rfl
  have LN : Hid (∀ w' : World, Below w3.heap.size w3 w' → Calls Tryz.prog 34 #[.pointer (some ⟨g, 0, none⟩)] w' fun e w'' => e = .returned (.int .i64 (L.length : Int)) ∧ w'' = w') := Lib.hid (fun w' hb => len_any B w' g b L ((HI.out.below HB3.out).below hb))
  have RE : Hid (∀ w' : World, Below w3.heap.size w3 w' → Calls Tryz.prog 31 #[.pointer (some ⟨r, 0, none⟩)] w' (REncPost w' L)) := Lib.hid (fun w' hb => ref_encode B w' r _ L (HR3.out.below hb) HM.out)
  obtain ⟨xa, xc, rfl⟩ := rowS_slice HO1.out
  obtain ⟨ya, yc, rfl⟩ := rowS_slice HO2.out
  clear hb3 EC HO1 HO2 HB12 HB1 HB2
  go_wp2
  refine wp_region_held_drew (S := (fun w' : World => w'.cell? ⟨r, 0, none⟩ = some (.slice va L.length vc))) (by kernel_rfl) hc3 (fun hHeld => ?_)
  refine wpAnyH_take (i := 0) (v := ?_) rfl (by kernel_rfl) (by kernel_rfl) (by kernel_rfl) (fun _ _ _ h => h) (Or.inl ⟨by rfl, ?rd0⟩) hHeld ?_
  case rd0 =>
    intro wS hSw
    have k0 := hSw
    go_simp
    try with_reducible rfl
  try simp only [Act.put, List.getElem_toArray, List.getElem_cons_zero, List.getElem_cons_succ, List.setIfInBounds_toArray, List.set_cons_zero, List.set_cons_succ]
  refine wpAnyH_take (i := 2) (v := ?_) rfl (by kernel_rfl) (by kernel_rfl) (by kernel_rfl) (fun _ _ _ h => h) (Or.inl ⟨by rfl, ?rd1⟩) hHeld ?_
  case rd1 =>
    intro wS hSw
    have k0 := hSw
    go_simp
    try with_reducible rfl
  try simp only [Act.put, List.getElem_toArray, List.getElem_cons_zero, List.getElem_cons_succ, List.setIfInBounds_toArray, List.set_cons_zero, List.set_cons_succ]
  refine wpAnyH_take (i := 3) (v := ?_) rfl (by kernel_rfl) (by kernel_rfl) (by kernel_rfl) (fun _ _ _ h => h) (Or.inl ⟨by rfl, ?rd2⟩) hHeld ?_
  case rd2 =>
    intro wS hSw
    have k0 := hSw
    go_simp
    try with_reducible rfl
  try simp only [Act.put, List.getElem_toArray, List.getElem_cons_zero, List.getElem_cons_succ, List.setIfInBounds_toArray, List.set_cons_zero, List.set_cons_succ]
  refine wpAnyH_take (i := 4) (v := ?_) rfl (by kernel_rfl) (by kernel_rfl) (by kernel_rfl) (fun _ _ _ h => h) (Or.inl ⟨by rfl, ?rd3⟩) hHeld ?_
  case rd3 =>
    intro wS hSw
    have k0 := hSw
    go_simp
    try with_reducible rfl
  try simp only [Act.put, List.getElem_toArray, List.getElem_cons_zero, List.getElem_cons_succ, List.setIfInBounds_toArray, List.set_cons_zero, List.set_cons_succ]
  refine wpAnyH_take (i := 5) (v := ?_) rfl (by kernel_rfl) (by kernel_rfl) (by kernel_rfl) (fun _ _ _ h => h) (Or.inl ⟨by rfl, ?rd4⟩) hHeld ?_
  case rd4 =>
    intro wS hSw
    have k0 := hSw
    go_simp
    try with_reducible rfl
  try simp only [Act.put, List.getElem_toArray, List.getElem_cons_zero, List.getElem_cons_succ, List.setIfInBounds_toArray, List.set_cons_zero, List.set_cons_succ]
  refine wpAnyH_take (i := 6) (v := ?_) rfl (by kernel_rfl) (by kernel_rfl) (by kernel_rfl) (fun _ _ _ h => h) (Or.inl ⟨by rfl, ?rd5⟩) hHeld ?_
  case rd5 =>
    intro wS hSw
    have k0 := hSw
    go_simp
    try with_reducible rfl
  try simp only [Act.put, List.getElem_toArray, List.getElem_cons_zero, List.getElem_cons_succ, List.setIfInBounds_toArray, List.set_cons_zero, List.set_cons_succ]
  refine wpAnyH_ready (rs := [1]) (by kernel_rfl) (by simp) ?_
  refine AllReadyH.cons rfl (fun K hK => ?_) AllReadyH.nil
  go_simp
  refine (LN.out _ ((Below.refl _ _).drew)).mono ?_
  rintro ex wl ⟨rfl, hwl⟩
  subst hwl
  go_wp2_with fail
  refine hK.out _ _ hc3 (fun hHeld2 => ?_)
  clear hK K hHeld
  have hHeld := hHeld2
  clear hHeld2
  try simp only [Act.put, List.getElem_toArray, List.getElem_cons_zero, List.getElem_cons_succ, List.setIfInBounds_toArray, List.set_cons_zero, List.set_cons_succ]
  refine wpAnyH_take (i := 7) (v := ?_) rfl (by kernel_rfl) (by kernel_rfl) (by kernel_rfl) (fun _ _ _ h => h) (Or.inl ⟨by rfl, ?rd7⟩) hHeld ?_
  case rd7 =>
    intro wS hSw
    have k0 := hSw
    go_simp
    try with_reducible rfl
  try simp only [Act.put, List.getElem_toArray, List.getElem_cons_zero, List.getElem_cons_succ, List.setIfInBounds_toArray, List.set_cons_zero, List.set_cons_succ]
  refine wpAnyH_take (i := 8) (v := ?_) rfl (by kernel_rfl) (by kernel_rfl) (by kernel_rfl) (fun _ _ _ h => h) (Or.inl ⟨by rfl, ?rd8⟩) hHeld ?_
  case rd8 =>
    intro wS hSw
    have k0 := hSw
    go_simp
    try with_reducible rfl
  try simp only [Act.put, List.getElem_toArray, List.getElem_cons_zero, List.getElem_cons_succ, List.setIfInBounds_toArray, List.set_cons_zero, List.set_cons_succ]
  refine wpAnyH_take (i := 9) (v := ?_) rfl (by kernel_rfl) (by kernel_rfl) (by kernel_rfl) (fun _ _ _ h => h) (Or.inl ⟨by rfl, ?rd9⟩) hHeld ?_
  case rd9 =>
    intro wS hSw
    have k0 := hSw
    go_simp
    try with_reducible rfl
  try simp only [Act.put, List.getElem_toArray, List.getElem_cons_zero, List.getElem_cons_succ, List.setIfInBounds_toArray, List.set_cons_zero, List.set_cons_succ]
  refine wpAnyH_take (i := 10) (v := ?_) rfl (by kernel_rfl) (by kernel_rfl) (by kernel_rfl) (fun _ _ _ h => h) (Or.inl ⟨by rfl, ?rd10⟩) hHeld ?_
  case rd10 =>
    intro wS hSw
    have k0 := hSw
    go_simp
    try with_reducible rfl
  try simp only [Act.put, List.getElem_toArray, List.getElem_cons_zero, List.getElem_cons_succ, List.setIfInBounds_toArray, List.set_cons_zero, List.set_cons_succ]
  refine wpAnyH_take (i := 11) (v := ?_) rfl (by kernel_rfl) (by kernel_rfl) (by kernel_rfl) (fun _ _ _ h => h) (Or.inl ⟨by rfl, ?rd11⟩) hHeld ?_
  case rd11 =>
    intro wS hSw
    have k0 := hSw
    go_simp
    try with_reducible rfl
  try simp only [Act.put, List.getElem_toArray, List.getElem_cons_zero, List.getElem_cons_succ, List.setIfInBounds_toArray, List.set_cons_zero, List.set_cons_succ]
  refine wpAnyH_take (i := 12) (v := ?_) rfl (by kernel_rfl) (by kernel_rfl) (by kernel_rfl) (fun _ _ _ h => h) (Or.inl ⟨by rfl, ?rd12⟩) hHeld ?_
  case rd12 =>
    intro wS hSw
    have k0 := hSw
    go_simp
    try with_reducible rfl
  try simp only [Act.put, List.getElem_toArray, List.getElem_cons_zero, List.getElem_cons_succ, List.setIfInBounds_toArray, List.set_cons_zero, List.set_cons_succ]
  refine wpAnyH_take (i := 13) (v := ?_) rfl (by kernel_rfl) (by kernel_rfl) (by kernel_rfl) (fun _ _ _ h => h) (Or.inl ⟨by rfl, ?rd13⟩) hHeld ?_
  case rd13 =>
    intro wS hSw
    have k0 := hSw
    go_simp
    try with_reducible rfl
  try simp only [Act.put, List.getElem_toArray, List.getElem_cons_zero, List.getElem_cons_succ, List.setIfInBounds_toArray, List.set_cons_zero, List.set_cons_succ]
  refine wpAnyH_take (i := 14) (v := ?_) rfl (by kernel_rfl) (by kernel_rfl) (by kernel_rfl) (fun _ _ _ h => h) (Or.inl ⟨by rfl, ?rd14⟩) hHeld ?_
  case rd14 =>
    intro wS hSw
    have k0 := hSw
    go_simp
    try with_reducible rfl
  try simp only [Act.put, List.getElem_toArray, List.getElem_cons_zero, List.getElem_cons_succ, List.setIfInBounds_toArray, List.set_cons_zero, List.set_cons_succ]
  refine wpAnyH_take (i := 15) (v := ?_) rfl (by kernel_rfl) (by kernel_rfl) (by kernel_rfl) (fun _ _ _ h => h) (Or.inl ⟨by rfl, ?rd15⟩) hHeld ?_
  case rd15 =>
    intro wS hSw
    have k0 := hSw
    go_simp
    try with_reducible rfl
  try simp only [Act.put, List.getElem_toArray, List.getElem_cons_zero, List.getElem_cons_succ, List.setIfInBounds_toArray, List.set_cons_zero, List.set_cons_succ]
  refine wpAnyH_take (i := 16) (v := ?_) rfl (by kernel_rfl) (by kernel_rfl) (by kernel_rfl) (fun _ _ _ h => h) (Or.inl ⟨by rfl, ?rd16⟩) hHeld ?_
  case rd16 =>
    intro wS hSw
    have k0 := hSw
    go_simp
    try with_reducible rfl
  try simp only [Act.put, List.getElem_toArray, List.getElem_cons_zero, List.getElem_cons_succ, List.setIfInBounds_toArray, List.set_cons_zero, List.set_cons_succ]
  refine wpAnyH_take (i := 17) (v := ?_) rfl (by kernel_rfl) (by kernel_rfl) (by kernel_rfl) (fun _ _ _ h => h) (Or.inl ⟨by rfl, ?rd17⟩) hHeld ?_
  case rd17 =>
    intro wS hSw
    have k0 := hSw
    go_simp
    try with_reducible rfl
  try simp only [Act.put, List.getElem_toArray, List.getElem_cons_zero, List.getElem_cons_succ, List.setIfInBounds_toArray, List.set_cons_zero, List.set_cons_succ]
  refine wpAnyH_take (i := 18) (v := ?_) rfl (by kernel_rfl) (by kernel_rfl) (by kernel_rfl) (fun _ _ _ h => h) (Or.inl ⟨by rfl, ?rd18⟩) hHeld ?_
  case rd18 =>
    intro wS hSw
    have k0 := hSw
    go_simp
    try with_reducible rfl
  try simp only [Act.put, List.getElem_toArray, List.getElem_cons_zero, List.getElem_cons_succ, List.setIfInBounds_toArray, List.set_cons_zero, List.set_cons_succ]
  refine wpAnyH_take (i := 19) (v := ?_) rfl (by kernel_rfl) (by kernel_rfl) (by kernel_rfl) (fun _ _ _ h => h) (Or.inl ⟨by rfl, ?rd19⟩) hHeld ?_
  case rd19 =>
    intro wS hSw
    have k0 := hSw
    go_simp
    try with_reducible rfl
  try simp only [Act.put, List.getElem_toArray, List.getElem_cons_zero, List.getElem_cons_succ, List.setIfInBounds_toArray, List.set_cons_zero, List.set_cons_succ]
  refine wpAnyH_take (i := 20) (v := ?_) rfl (by kernel_rfl) (by kernel_rfl) (by kernel_rfl) (fun _ _ _ h => h) (Or.inl ⟨by rfl, ?rd20⟩) hHeld ?_
  case rd20 =>
    intro wS hSw
    have k0 := hSw
    go_simp
    try with_reducible rfl
  try simp only [Act.put, List.getElem_toArray, List.getElem_cons_zero, List.getElem_cons_succ, List.setIfInBounds_toArray, List.set_cons_zero, List.set_cons_succ]
  refine wpAnyH_take (i := 21) (v := ?_) rfl (by kernel_rfl) (by kernel_rfl) (by kernel_rfl) (fun _ _ _ h => h) (Or.inl ⟨by rfl, ?rd21⟩) hHeld ?_
  case rd21 =>
    intro wS hSw
    have k0 := hSw
    go_simp
    try with_reducible rfl
  try simp only [Act.put, List.getElem_toArray, List.getElem_cons_zero, List.getElem_cons_succ, List.setIfInBounds_toArray, List.set_cons_zero, List.set_cons_succ]
  refine wpAnyH_take (i := 22) (v := ?_) rfl (by kernel_rfl) (by kernel_rfl) (by kernel_rfl) (fun _ _ _ h => h) (Or.inl ⟨by rfl, ?rd22⟩) hHeld ?_
  case rd22 =>
    intro wS hSw
    have k0 := hSw
    go_simp
    try with_reducible rfl
  try simp only [Act.put, List.getElem_toArray, List.getElem_cons_zero, List.getElem_cons_succ, List.setIfInBounds_toArray, List.set_cons_zero, List.set_cons_succ]
  refine wpAnyH_take (i := 23) (v := ?_) rfl (by kernel_rfl) (by kernel_rfl) (by kernel_rfl) (fun _ _ _ h => h) (Or.inl ⟨by rfl, ?rd23⟩) hHeld ?_
  case rd23 =>
    intro wS hSw
    have k0 := hSw
    go_simp
    try with_reducible rfl
  try simp only [Act.put, List.getElem_toArray, List.getElem_cons_zero, List.getElem_cons_succ, List.setIfInBounds_toArray, List.set_cons_zero, List.set_cons_succ]
  refine wpAnyH_take (i := 24) (v := ?_) rfl (by kernel_rfl) (by kernel_rfl) (by kernel_rfl) (fun _ _ _ h => h) (Or.inl ⟨by rfl, ?rd24⟩) hHeld ?_
  case rd24 =>
    intro wS hSw
    have k0 := hSw
    go_simp
    try with_reducible rfl
  try simp only [Act.put, List.getElem_toArray, List.getElem_cons_zero, List.getElem_cons_succ, List.setIfInBounds_toArray, List.set_cons_zero, List.set_cons_succ]
  refine wpAnyH_take (i := 25) (v := ?_) rfl (by kernel_rfl) (by kernel_rfl) (by kernel_rfl) (fun _ _ _ h => h) (Or.inl ⟨by rfl, ?rd25⟩) hHeld ?_
  case rd25 =>
    intro wS hSw
    have k0 := hSw
    go_simp
    try with_reducible rfl
  try simp only [Act.put, List.getElem_toArray, List.getElem_cons_zero, List.getElem_cons_succ, List.setIfInBounds_toArray, List.set_cons_zero, List.set_cons_succ]
  refine wpAnyH_take (i := 26) (v := ?_) rfl (by kernel_rfl) (by kernel_rfl) (by kernel_rfl) (fun _ _ _ h => h) (Or.inl ⟨by rfl, ?rd26⟩) hHeld ?_
  case rd26 =>
    intro wS hSw
    have k0 := hSw
    go_simp
    try with_reducible rfl
  try simp only [Act.put, List.getElem_toArray, List.getElem_cons_zero, List.getElem_cons_succ, List.setIfInBounds_toArray, List.set_cons_zero, List.set_cons_succ]
  refine wpAnyH_take (i := 27) (v := ?_) rfl (by kernel_rfl) (by kernel_rfl) (by kernel_rfl) (fun _ _ _ h => h) (Or.inl ⟨by rfl, ?rd27⟩) hHeld ?_
  case rd27 =>
    intro wS hSw
    have k0 := hSw
    go_simp
    try with_reducible rfl
  try simp only [Act.put, List.getElem_toArray, List.getElem_cons_zero, List.getElem_cons_succ, List.setIfInBounds_toArray, List.set_cons_zero, List.set_cons_succ]
  refine wpAnyH_take (i := 28) (v := ?_) rfl (by kernel_rfl) (by kernel_rfl) (by kernel_rfl) (fun _ _ _ h => h) (Or.inl ⟨by rfl, ?rd28⟩) hHeld ?_
  case rd28 =>
    intro wS hSw
    have k0 := hSw
    go_simp
    try with_reducible rfl
  try simp only [Act.put, List.getElem_toArray, List.getElem_cons_zero, List.getElem_cons_succ, List.setIfInBounds_toArray, List.set_cons_zero, List.set_cons_succ]
  refine wpAnyH_take (i := 29) (v := ?_) rfl (by kernel_rfl) (by kernel_rfl) (by kernel_rfl) (fun _ _ _ h => h) (Or.inl ⟨by rfl, ?rd29⟩) hHeld ?_
  case rd29 =>
    intro wS hSw
    have k0 := hSw
    go_simp
    try with_reducible rfl
  try simp only [Act.put, List.getElem_toArray, List.getElem_cons_zero, List.getElem_cons_succ, List.setIfInBounds_toArray, List.set_cons_zero, List.set_cons_succ]
  refine wpAnyH_take (i := 30) (v := ?_) rfl (by kernel_rfl) (by kernel_rfl) (by kernel_rfl) (fun _ _ _ h => h) (Or.inl ⟨by rfl, ?rd30⟩) hHeld ?_
  case rd30 =>
    intro wS hSw
    have k0 := hSw
    go_simp
    try with_reducible rfl
  try simp only [Act.put, List.getElem_toArray, List.getElem_cons_zero, List.getElem_cons_succ, List.setIfInBounds_toArray, List.set_cons_zero, List.set_cons_succ]
  refine wpAnyH_take (i := 31) (v := ?_) rfl (by kernel_rfl) (by kernel_rfl) (by kernel_rfl) (fun _ _ _ h => h) (Or.inl ⟨by rfl, ?rd31⟩) hHeld ?_
  case rd31 =>
    intro wS hSw
    have k0 := hSw
    go_simp
    try with_reducible rfl
  try simp only [Act.put, List.getElem_toArray, List.getElem_cons_zero, List.getElem_cons_succ, List.setIfInBounds_toArray, List.set_cons_zero, List.set_cons_succ]
  refine wpAnyH_take (i := 32) (v := ?_) rfl (by kernel_rfl) (by kernel_rfl) (by kernel_rfl) (fun _ _ _ h => h) (Or.inl ⟨by rfl, ?rd32⟩) hHeld ?_
  case rd32 =>
    intro wS hSw
    have k0 := hSw
    go_simp
    try with_reducible rfl
  try simp only [Act.put, List.getElem_toArray, List.getElem_cons_zero, List.getElem_cons_succ, List.setIfInBounds_toArray, List.set_cons_zero, List.set_cons_succ]
  refine wpAnyH_take (i := 33) (v := ?_) rfl (by kernel_rfl) (by kernel_rfl) (by kernel_rfl) (fun _ _ _ h => h) (Or.inl ⟨by rfl, ?rd33⟩) hHeld ?_
  case rd33 =>
    intro wS hSw
    have k0 := hSw
    go_simp
    try with_reducible rfl
  try simp only [Act.put, List.getElem_toArray, List.getElem_cons_zero, List.getElem_cons_succ, List.setIfInBounds_toArray, List.set_cons_zero, List.set_cons_succ]
  refine wpAnyH_take (i := 34) (v := ?_) rfl (by kernel_rfl) (by kernel_rfl) (by kernel_rfl) (fun _ _ _ h => h) (Or.inl ⟨by rfl, ?rd34⟩) hHeld ?_
  case rd34 =>
    intro wS hSw
    have k0 := hSw
    go_simp
    try with_reducible rfl
  try simp only [Act.put, List.getElem_toArray, List.getElem_cons_zero, List.getElem_cons_succ, List.setIfInBounds_toArray, List.set_cons_zero, List.set_cons_succ]
  refine wpAnyH_ready (rs := [35]) (by kernel_rfl) (by simp) ?_
  refine AllReadyH.cons rfl (fun K hK => ?_) AllReadyH.nil
  go_simp
  refine (RE.out _ ((Below.refl _ _).drew)).mono ?_
  rintro ex wE ⟨rfl, hbE⟩
  have HBE := Lib.hid (((Below.refl w3.heap.size w3).drew).trans hbE)
  have hcE : wE.cell? ⟨r, 0, none⟩ = some (.slice va L.length vc) := by rw [cell_of_heap (HR3.out.below HBE.out).book]; rfl
  clear hbE
  go_wp2_with fail
  refine hK.out _ _ hcE (fun hHeld2 => ?_)
  clear hK K hHeld
  have hHeld := hHeld2
  clear hHeld2
  try simp only [Act.put, List.getElem_toArray, List.getElem_cons_zero, List.getElem_cons_succ, List.setIfInBounds_toArray, List.set_cons_zero, List.set_cons_succ]
  refine wpAnyH_take (i := 36) (v := .bool false) rfl (by kernel_rfl) (by kernel_rfl) (by kernel_rfl) (fun _ _ _ h => h) (Or.inl ⟨by rfl, ?rd36⟩) hHeld ?_
  case rd36 =>
    intro wS hSw
    clear hSw hHeld
    go_simp
    try with_reducible rfl
  try simp only [Act.put, List.getElem_toArray, List.getElem_cons_zero, List.getElem_cons_succ, List.setIfInBounds_toArray, List.set_cons_zero, List.set_cons_succ]
  refine wpAnyH_take (i := 37) (v := ?_) rfl (by kernel_rfl) (by kernel_rfl) (by kernel_rfl) (fun _ _ _ h => h) (Or.inl ⟨by rfl, ?rd37⟩) hHeld ?_
  case rd37 =>
    intro wS hSw
    have k0 := hSw
    go_simp
    try with_reducible rfl
  try simp only [Act.put, List.getElem_toArray, List.getElem_cons_zero, List.getElem_cons_succ, List.setIfInBounds_toArray, List.set_cons_zero, List.set_cons_succ]
  refine wpAnyH_done (by kernel_rfl) ?_ _
  clear hHeld
  try simp only [Act.put, List.getElem_toArray, List.getElem_cons_zero, List.getElem_cons_succ, List.setIfInBounds_toArray, List.set_cons_zero, List.set_cons_succ]
  clear hcE
  have HT4 := Lib.hid (HTA.out.below HBE.out)
  clear HTA LN RE hc3
  go_wp2
  obtain ⟨i0, hi0, hz0, hz1, hz2⟩ := info_parts infoZ
  have hz3 : (enV zeroS).cells.size = 38 := by kernel_rfl
  go_loopw [9] (fun v9 wr => ∃ i : Nat, i ≤ L.length ∧ v9 = .int .i64 i ∧ Hid (ToldA w (.slice xa L.length xc) (.slice ya L.length yc) L i wr)) (fun v9 _ => L.length - (RowKit.intOf v9).toNat)
  case atStart => exact ⟨0, by omega, rfl, HT4⟩
  case round =>
    obtain ⟨i, hi, rfl, HA⟩ := hrel
    obtain ⟨wo, hwo⟩ : ∃ wo, wo = wr := ⟨_, rfl⟩
    subst hwo
    by_cases hil : (i : Int) < (L.length : Int)
    · have hi2 : i < L.length := by omega
      obtain ⟨e, he⟩ : ∃ e, L[i]? = some e := ⟨_, List.getElem?_eq_getElem hi2⟩
      have hfe := HR.out.fits e (List.mem_of_getElem? he)
      obtain ⟨C, c1, c2, c3, c4⟩ := HA.out.one
      obtain ⟨gx, cx, hx, hgx, _, _, _⟩ := rowS_form c4 (by omega)
      injection hx with e1 _ e3
      subst e1 e3
      rw [← c1] at c4
      have hex : wo.rangeAt gx (i * 38) e.cells := row_ent c4 c3 (c2 i e (Nat.le_refl _) he)
      have hrw := HR.out.below HA.out.be
      obtain ⟨gm, cm, hmv, hgm, _, _, _⟩ := rowS_form hrw.row (by omega)
      injection hmv with e1 _ e3
      subst e1 e3
      have hem : wo.rangeAt gm (i * 38) e.cells := hrw.ent he
      have SF : Hid (∀ w' : World, Below wo.heap.size wo w' → w'.cell? ⟨r, 0, none⟩ = some (.slice (some ⟨gm, 0, none⟩) L.length vc) ∧ w'.rangeAt gx (i * 38) e.cells ∧ w'.rangeAt gm (i * 38) e.cells) := Lib.hid (fun w' hb => ⟨by rw [cell_of_heap (hrw.below hb).book]; rfl, fun j u hu => (World.cell?_of_block (a := ⟨gx, i * 38 + j, none⟩) (hb.block gx hgx)).trans (hex j u hu), fun j u hu => (World.cell?_of_block (a := ⟨gm, i * 38 + j, none⟩) (hb.block gm hgm)).trans (hem j u hu)⟩)
      have AK := Lib.hid (fun W => alike_any W e hfe)
      have EOK := Lib.hid hfe.en; have EOR := Lib.hid hfe.enR
      have Z0 := Lib.hid (show (onlyP spoilt).id.length = 32 from by simp [onlyP])
      clear c1 c2 c3 c4 hex hem hrw he hfe
      go_wp2
      refine wp_region_held_drew (S := (fun w' : World => w'.cell? ⟨r, 0, none⟩ = some (.slice (some ⟨gm, 0, none⟩) L.length vc) ∧ w'.rangeAt gx (i * 38) e.cells ∧ w'.rangeAt gm (i * 38) e.cells)) (by kernel_rfl) (SF.out _ ((Below.refl _ _).drew)) (fun hHeld => ?_)
      refine wpAnyH_take (i := 0) (v := ?_) rfl (by kernel_rfl) (by kernel_rfl) (by kernel_rfl) (fun _ _ _ h => h) (Or.inl ⟨by rfl, ?re0⟩) hHeld ?_
      case re0 =>
        intro wS hSw
        have k0 := hSw.1
        clear hSw
        go_simp
        try with_reducible rfl
      try simp only [Act.put, List.getElem_toArray, List.getElem_cons_zero, List.getElem_cons_succ, List.setIfInBounds_toArray, List.set_cons_zero, List.set_cons_succ]
      refine wpAnyH_take (i := 1) (v := ?_) rfl (by kernel_rfl) (by kernel_rfl) (by kernel_rfl) (fun _ _ _ h => h) (Or.inl ⟨by rfl, ?re1⟩) hHeld ?_
      case re1 =>
        intro wS hSw
        have k0 := hSw.1
        clear hSw
        go_simp
        try with_reducible rfl
      try simp only [Act.put, List.getElem_toArray, List.getElem_cons_zero, List.getElem_cons_succ, List.setIfInBounds_toArray, List.set_cons_zero, List.set_cons_succ]
      refine wpAnyH_take (i := 2) (v := ?_) rfl (by kernel_rfl) (by kernel_rfl) (by kernel_rfl) (fun _ _ _ h => h) (Or.inl ⟨by rfl, ?re2⟩) hHeld ?_
      case re2 =>
        intro wS hSw
        have k0 := hSw.1
        clear hSw
        go_simp
        try with_reducible rfl
      try simp only [Act.put, List.getElem_toArray, List.getElem_cons_zero, List.getElem_cons_succ, List.setIfInBounds_toArray, List.set_cons_zero, List.set_cons_succ]
      refine' wpAnyH_take (i := 3) (v := _) rfl (by kernel_rfl) (by kernel_rfl) (by kernel_rfl) (fun _ _ _ h => h) (yieldsIf_load_mid (by rfl) _ _ rfl gx (i * 38) rfl e.cells _ ?re3S ?re3u ?re3d ?re3i) hHeld ?re3x
      case re3S =>
        intro wS hSw
        exact hSw.2.1
      case re3u => exact Tryz.underlying44
      case re3d => rfl
      case re3i => exact EOK.out.infoL
      try simp only [Act.put, List.getElem_toArray, List.getElem_cons_zero, List.getElem_cons_succ, List.setIfInBounds_toArray, List.set_cons_zero, List.set_cons_succ]
      refine wpAnyH_take (i := 4) (v := ?_) rfl (by kernel_rfl) (by kernel_rfl) (by kernel_rfl) (fun _ _ _ h => h) (Or.inl ⟨by rfl, ?re4⟩) hHeld ?_
      case re4 =>
        intro wS hSw
        have k0 := hSw.1
        clear hSw
        go_simp
        try with_reducible rfl
      try simp only [Act.put, List.getElem_toArray, List.getElem_cons_zero, List.getElem_cons_succ, List.setIfInBounds_toArray, List.set_cons_zero, List.set_cons_succ]
      refine wpAnyH_take (i := 5) (v := ?_) rfl (by kernel_rfl) (by kernel_rfl) (by kernel_rfl) (fun _ _ _ h => h) (Or.inl ⟨by rfl, ?re5⟩) hHeld ?_
      case re5 =>
        intro wS hSw
        have k0 := hSw.1
        clear hSw
        go_simp
        try with_reducible rfl
      try simp only [Act.put, List.getElem_toArray, List.getElem_cons_zero, List.getElem_cons_succ, List.setIfInBounds_toArray, List.set_cons_zero, List.set_cons_succ]
      refine wpAnyH_take (i := 6) (v := ?_) rfl (by kernel_rfl) (by kernel_rfl) (by kernel_rfl) (fun _ _ _ h => h) (Or.inl ⟨by rfl, ?re6⟩) hHeld ?_
      case re6 =>
        intro wS hSw
        have k0 := hSw.1
        clear hSw
        go_simp
        try with_reducible rfl
      try simp only [Act.put, List.getElem_toArray, List.getElem_cons_zero, List.getElem_cons_succ, List.setIfInBounds_toArray, List.set_cons_zero, List.set_cons_succ]
      refine wpAnyH_take (i := 7) (v := ?_) rfl (by kernel_rfl) (by kernel_rfl) (by kernel_rfl) (fun _ _ _ h => h) (Or.inl ⟨by rfl, ?re7⟩) hHeld ?_
      case re7 =>
        intro wS hSw
        have k0 := hSw.1
        clear hSw
        go_simp
        try with_reducible rfl
      try simp only [Act.put, List.getElem_toArray, List.getElem_cons_zero, List.getElem_cons_succ, List.setIfInBounds_toArray, List.set_cons_zero, List.set_cons_succ]
      refine wpAnyH_take (i := 8) (v := ?_) rfl (by kernel_rfl) (by kernel_rfl) (by kernel_rfl) (fun _ _ _ h => h) (Or.inl ⟨by rfl, ?re8⟩) hHeld ?_
      case re8 =>
        intro wS hSw
        have k0 := hSw.1
        clear hSw
        go_simp
        try with_reducible rfl
      try simp only [Act.put, List.getElem_toArray, List.getElem_cons_zero, List.getElem_cons_succ, List.setIfInBounds_toArray, List.set_cons_zero, List.set_cons_succ]
      refine wpAnyH_take (i := 9) (v := ?_) rfl (by kernel_rfl) (by kernel_rfl) (by kernel_rfl) (fun _ _ _ h => h) (Or.inl ⟨by rfl, ?re9⟩) hHeld ?_
      case re9 =>
        intro wS hSw
        have k0 := hSw.1
        clear hSw
        go_simp
        try with_reducible rfl
      try simp only [Act.put, List.getElem_toArray, List.getElem_cons_zero, List.getElem_cons_succ, List.setIfInBounds_toArray, List.set_cons_zero, List.set_cons_succ]
      refine' wpAnyH_take (i := 10) (v := _) rfl (by kernel_rfl) (by kernel_rfl) (by kernel_rfl) (fun _ _ _ h => h) (yieldsIf_load_mid (by rfl) _ _ rfl gm (i * 38) rfl e.cells _ ?re10S ?re10u ?re10d ?re10i) hHeld ?re10x
      case re10S =>
        intro wS hSw
        exact hSw.2.2
      case re10u => exact Tryz.underlying49
      case re10d => rfl
      case re10i => exact EOR.out.infoL
      try simp only [Act.put, List.getElem_toArray, List.getElem_cons_zero, List.getElem_cons_succ, List.setIfInBounds_toArray, List.set_cons_zero, List.set_cons_succ]
      refine wpAnyH_ready (rs := [11]) (by kernel_rfl) (by simp) ?_
      refine AllReadyH.cons rfl (fun K hK => ?_) AllReadyH.nil
      go_simp
      refine (AK.out _).mono ?_
      rintro ex wa ⟨rfl, hba⟩
      have HBA := Lib.hid (((Below.refl wo.heap.size wo).drew).trans hba)
      have hsa := SF.out wa HBA.out
      clear hba
      go_wp2_with fail
      refine hK.out _ _ hsa (fun hHeld2 => ?_)
      clear hK K hHeld
      have hHeld := hHeld2
      clear hHeld2
      try simp only [Act.put, List.getElem_toArray, List.getElem_cons_zero, List.getElem_cons_succ, List.setIfInBounds_toArray, List.set_cons_zero, List.set_cons_succ]
      refine wpAnyH_take (i := 12) (v := ?_) rfl (by kernel_rfl) (by kernel_rfl) (by kernel_rfl) (fun _ _ _ h => h) (Or.inl ⟨by rfl, ?re12⟩) hHeld ?_
      case re12 =>
        intro wS hSw
        have k0 := hSw.1
        clear hSw
        go_simp
        try with_reducible rfl
      try simp only [Act.put, List.getElem_toArray, List.getElem_cons_zero, List.getElem_cons_succ, List.setIfInBounds_toArray, List.set_cons_zero, List.set_cons_succ]
      refine wpAnyH_done (by kernel_rfl) ?_ _
      clear hHeld
      try simp only [Act.put, List.getElem_toArray, List.getElem_cons_zero, List.getElem_cons_succ, List.setIfInBounds_toArray, List.set_cons_zero, List.set_cons_succ]
      clear hsa
      have hA1 := HA.out.below HBA.out
      obtain ⟨hth, hA2⟩ := hA1.set hi2 (onlyP spoilt) Z0.out
      have HTH : Hid (wa.there gx (i * 38) (onlyP spoilt).cells.toArray.size) := Lib.hid (by rw [List.size_toArray, cells_size Z0.out]; exact hth)
      have HI1 : Hid ((Tryz.prog.info? 44).map (·.size) = some (onlyP spoilt).cells.toArray.size) := Lib.hid (infoEn Z0.out)
      have HA2 := Lib.hid hA2
      clear hth hA2 hA1
      go_wp2_with (first
        | (refine wpList_build0 rfl (.const (.string ⟨spoilt.toArray⟩)) rfl spoilt rfl ?_)
        | (refine wpList_store_mid rfl _ _ _ rfl gx (i * 38) (onlyP spoilt).cells.toArray rfl rfl HTH.out HI1.out (cells_all _) ?_
           simp only [List.toList_toArray]
           generalize wa.setCells gx (i * 38) (onlyP spoilt).cells = w5 at HA2 ⊢))
      go_roundw
      case rel => exact ⟨i + 1, by omega, by go_num, HA2⟩
      case measure => simp [RowKit.intOf]; omega
    · have HTB : Hid (ToldB w (.slice xa L.length xc) (.slice ya L.length yc) L L.length wo) := Lib.hid (by
        obtain ⟨C, c1, c2, c3, c4⟩ := HA.out.one
        exact ⟨⟨C, c1, c4⟩, HA.out.two, HA.out.dis, HA.out.be⟩)
      clear HA
      go_wp2
      go_loopw [5, 10] (fun v5 v10 wr => ∃ k : Nat, k ≤ 20 ∧ v10 = .int .i64 k ∧ Hid (ToldB w v5 (.slice ya L.length yc) L (L.length + k) wr)) (fun _ v10 _ => 20 - (RowKit.intOf v10).toNat)
      case atStart => exact ⟨0, by omega, rfl, HTB⟩
      case round =>
        obtain ⟨k, hk, rfl, HB⟩ := hrel
        by_cases hk20 : (k : Int) < 20
        · obtain ⟨C, c1, c4⟩ := HB.out.one
          have HC4 := Lib.hid c4; have HC1 := Lib.hid c1
          have Z1 := Lib.hid (show (onlyP behind).cells.length = 38 from cells_size (by simp [onlyP]))
          clear c1 c4
          go_wp2_with (first
            | (refine wpList_build0 rfl (.const (.string ⟨behind.toArray⟩)) rfl behind rfl ?_)
            | (refine wpList_one rfl 81 44 (.tmp 87) (onlyP behind).cells i0 _ rfl rfl Tryz.underlying81 hi0 hz0 hz1 Z1.out ?_
               intro y w4 hh4 hg4 hy4 hs4
               have HH4 := Lib.hid hh4; have HG4 := Lib.hid hg4; have HS4 := Lib.hid hs4
               clear hh4 hg4 hy4 hs4)
            | (refine wpList_append38 rfl _ _ 81 rfl w.heap.size 44 i0 _ 88 Tryz.underlying81 hi0 hz0 hz1 hz2 hz3 u5 (L.length + k) (cellsS C) rfl (rowS_kept HC4.out (fun x _ hl => HG4.out.block x hl (fun h => nomatch h))) _ 1 (onlyP behind).cells rfl HH4.out (by rw [Z1.out]) (cells_one _) (by unfold maxLen; omega) (by omega) (by have := HB.out.be.size; have := HS4.out; omega) ?_
               intro v5 w5 ho5 hg5 hv5
               have HO5 := Lib.hid ho5; have HG5 := Lib.hid hg5; have HV5 := Lib.hid hv5
               clear ho5 hg5 hv5))
          go_roundw
          case rel =>
            have hb4 : Below w.heap.size w w4 := HB.out.be.grown HG4.out HB.out.be.size (fun k hk => nomatch hk)
            refine ⟨k + 1, by omega, by go_num, Lib.hid ⟨⟨C ++ [onlyP behind], by rw [List.length_append, HC1.out]; simp; omega, ?_⟩, ?_, ?_, ?_⟩⟩
            · rw [← cellsS_one_more, ← Nat.add_assoc]; exact HO5.out
            · refine rowS_kept (rowS_kept HB.out.two (fun x _ hl => HG4.out.block x hl (fun h => nomatch h))) (fun x hx hl => HG5.out.block x hl (fun h => ?_))
              exact HB.out.dis x (by rw [ob, ← h]; simp) hx
            · intro x hx hy
              rcases HV5.out with hv | hv
              · exact HB.out.dis x (by rw [ob, ← hv]; exact hx) hy
              · have h1 : x = w4.heap.size := by rw [ob, hv] at hx; simpa using hx
                have h2 := rowS_lt HB.out.two x hy
                have := HS4.out
                omega
            · exact hb4.grown HG5.out hb4.size (fun x hx => rowS_ge HC4.out x (by simp [ob, hx]))
          case measure => simp [RowKit.intOf]; omega
        · obtain rfl : k = 20 := by omega
          obtain ⟨C, c1, c4⟩ := HB.out.one
          obtain ⟨oa, oc, rfl⟩ := rowS_slice c4
          clear c1 c4
          go_wp2
          go_loopw [11] (fun v11 wr => ∃ i : Nat, i ≤ L.length ∧ v11 = .int .i64 i ∧ Hid (ToldB w (.slice oa (L.length + 20) oc) (.slice ya L.length yc) L (L.length + 20) wr)) (fun v11 _ => L.length - (RowKit.intOf v11).toNat)
          case atStart => exact ⟨0, by omega, rfl, HB⟩
          case round =>
            obtain ⟨i, hi, rfl, HA⟩ := hrel
            obtain ⟨wo, hwo⟩ : ∃ wo, wo = wr := ⟨_, rfl⟩
            subst hwo
            by_cases hil : (i : Int) < (L.length : Int)
            · have hi2 : i < L.length := by omega
              obtain ⟨e, he⟩ : ∃ e, L[i]? = some e := ⟨_, List.getElem?_eq_getElem hi2⟩
              have hfe := HR.out.fits e (List.mem_of_getElem? he)
              obtain ⟨gy, cy, hy, hgy, _, _, _⟩ := rowS_form HA.out.two (by omega)
              injection hy with e1 _ e3
              subst e1 e3
              have hex : wo.rangeAt gy (i * 38) e.cells := row_ent HA.out.two (fitsId HR.out.fits) he
              have hrw := HR.out.below HA.out.be
              obtain ⟨gm, cm, hmv, hgm, _, _, _⟩ := rowS_form hrw.row (by omega)
              injection hmv with e1 _ e3
              subst e1 e3
              have hem : wo.rangeAt gm (i * 38) e.cells := hrw.ent he
              have SF : Hid (∀ w' : World, Below wo.heap.size wo w' → w'.cell? ⟨r, 0, none⟩ = some (.slice (some ⟨gm, 0, none⟩) L.length vc) ∧ w'.rangeAt gy (i * 38) e.cells ∧ w'.rangeAt gm (i * 38) e.cells) := Lib.hid (fun w' hb => ⟨by rw [cell_of_heap (hrw.below hb).book]; rfl, fun j u hu => (World.cell?_of_block (a := ⟨gy, i * 38 + j, none⟩) (hb.block gy hgy)).trans (hex j u hu), fun j u hu => (World.cell?_of_block (a := ⟨gm, i * 38 + j, none⟩) (hb.block gm hgm)).trans (hem j u hu)⟩)
              have AK := Lib.hid (fun W => alike_any W e hfe)
              have EOK := Lib.hid hfe.en; have EOR := Lib.hid hfe.enR
              clear hex hem hrw he hfe
              go_wp2
              refine wp_region_held_drew (S := (fun w' : World => w'.cell? ⟨r, 0, none⟩ = some (.slice (some ⟨gm, 0, none⟩) L.length vc) ∧ w'.rangeAt gy (i * 38) e.cells ∧ w'.rangeAt gm (i * 38) e.cells)) (by kernel_rfl) (SF.out _ ((Below.refl _ _).drew)) (fun hHeld => ?_)
              refine wpAnyH_take (i := 0) (v := ?_) rfl (by kernel_rfl) (by kernel_rfl) (by kernel_rfl) (fun _ _ _ h => h) (Or.inl ⟨by rfl, ?rf0⟩) hHeld ?_
              case rf0 =>
                intro wS hSw
                have k0 := hSw.1
                clear hSw
                go_simp
                try with_reducible rfl
              try simp only [Act.put, List.getElem_toArray, List.getElem_cons_zero, List.getElem_cons_succ, List.setIfInBounds_toArray, List.set_cons_zero, List.set_cons_succ]
              refine wpAnyH_take (i := 1) (v := ?_) rfl (by kernel_rfl) (by kernel_rfl) (by kernel_rfl) (fun _ _ _ h => h) (Or.inl ⟨by rfl, ?rf1⟩) hHeld ?_
              case rf1 =>
                intro wS hSw
                have k0 := hSw.1
                clear hSw
                go_simp
                try with_reducible rfl
              try simp only [Act.put, List.getElem_toArray, List.getElem_cons_zero, List.getElem_cons_succ, List.setIfInBounds_toArray, List.set_cons_zero, List.set_cons_succ]
              refine wpAnyH_take (i := 2) (v := ?_) rfl (by kernel_rfl) (by kernel_rfl) (by kernel_rfl) (fun _ _ _ h => h) (Or.inl ⟨by rfl, ?rf2⟩) hHeld ?_
              case rf2 =>
                intro wS hSw
                have k0 := hSw.1
                clear hSw
                go_simp
                try with_reducible rfl
              try simp only [Act.put, List.getElem_toArray, List.getElem_cons_zero, List.getElem_cons_succ, List.setIfInBounds_toArray, List.set_cons_zero, List.set_cons_succ]
              refine' wpAnyH_take (i := 3) (v := _) rfl (by kernel_rfl) (by kernel_rfl) (by kernel_rfl) (fun _ _ _ h => h) (yieldsIf_load_mid (by rfl) _ _ rfl gy (i * 38) rfl e.cells _ ?rf3S ?rf3u ?rf3d ?rf3i) hHeld ?rf3x
              case rf3S =>
                intro wS hSw
                exact hSw.2.1
              case rf3u => exact Tryz.underlying44
              case rf3d => rfl
              case rf3i => exact EOK.out.infoL
              try simp only [Act.put, List.getElem_toArray, List.getElem_cons_zero, List.getElem_cons_succ, List.setIfInBounds_toArray, List.set_cons_zero, List.set_cons_succ]
              refine wpAnyH_take (i := 4) (v := ?_) rfl (by kernel_rfl) (by kernel_rfl) (by kernel_rfl) (fun _ _ _ h => h) (Or.inl ⟨by rfl, ?rf4⟩) hHeld ?_
              case rf4 =>
                intro wS hSw
                have k0 := hSw.1
                clear hSw
                go_simp
                try with_reducible rfl
              try simp only [Act.put, List.getElem_toArray, List.getElem_cons_zero, List.getElem_cons_succ, List.setIfInBounds_toArray, List.set_cons_zero, List.set_cons_succ]
              refine wpAnyH_take (i := 5) (v := ?_) rfl (by kernel_rfl) (by kernel_rfl) (by kernel_rfl) (fun _ _ _ h => h) (Or.inl ⟨by rfl, ?rf5⟩) hHeld ?_
              case rf5 =>
                intro wS hSw
                have k0 := hSw.1
                clear hSw
                go_simp
                try with_reducible rfl
              try simp only [Act.put, List.getElem_toArray, List.getElem_cons_zero, List.getElem_cons_succ, List.setIfInBounds_toArray, List.set_cons_zero, List.set_cons_succ]
              refine wpAnyH_take (i := 6) (v := ?_) rfl (by kernel_rfl) (by kernel_rfl) (by kernel_rfl) (fun _ _ _ h => h) (Or.inl ⟨by rfl, ?rf6⟩) hHeld ?_
              case rf6 =>
                intro wS hSw
                have k0 := hSw.1
                clear hSw
                go_simp
                try with_reducible rfl
              try simp only [Act.put, List.getElem_toArray, List.getElem_cons_zero, List.getElem_cons_succ, List.setIfInBounds_toArray, List.set_cons_zero, List.set_cons_succ]
              refine wpAnyH_take (i := 7) (v := ?_) rfl (by kernel_rfl) (by kernel_rfl) (by kernel_rfl) (fun _ _ _ h => h) (Or.inl ⟨by rfl, ?rf7⟩) hHeld ?_
              case rf7 =>
                intro wS hSw
                have k0 := hSw.1
                clear hSw
                go_simp
                try with_reducible rfl
              try simp only [Act.put, List.getElem_toArray, List.getElem_cons_zero, List.getElem_cons_succ, List.setIfInBounds_toArray, List.set_cons_zero, List.set_cons_succ]
              refine wpAnyH_take (i := 8) (v := ?_) rfl (by kernel_rfl) (by kernel_rfl) (by kernel_rfl) (fun _ _ _ h => h) (Or.inl ⟨by rfl, ?rf8⟩) hHeld ?_
              case rf8 =>
                intro wS hSw
                have k0 := hSw.1
                clear hSw
                go_simp
                try with_reducible rfl
              try simp only [Act.put, List.getElem_toArray, List.getElem_cons_zero, List.getElem_cons_succ, List.setIfInBounds_toArray, List.set_cons_zero, List.set_cons_succ]
              refine wpAnyH_take (i := 9) (v := ?_) rfl (by kernel_rfl) (by kernel_rfl) (by kernel_rfl) (fun _ _ _ h => h) (Or.inl ⟨by rfl, ?rf9⟩) hHeld ?_
              case rf9 =>
                intro wS hSw
                have k0 := hSw.1
                clear hSw
                go_simp
                try with_reducible rfl
              try simp only [Act.put, List.getElem_toArray, List.getElem_cons_zero, List.getElem_cons_succ, List.setIfInBounds_toArray, List.set_cons_zero, List.set_cons_succ]
              refine' wpAnyH_take (i := 10) (v := _) rfl (by kernel_rfl) (by kernel_rfl) (by kernel_rfl) (fun _ _ _ h => h) (yieldsIf_load_mid (by rfl) _ _ rfl gm (i * 38) rfl e.cells _ ?rf10S ?rf10u ?rf10d ?rf10i) hHeld ?rf10x
              case rf10S =>
                intro wS hSw
                exact hSw.2.2
              case rf10u => exact Tryz.underlying49
              case rf10d => rfl
              case rf10i => exact EOR.out.infoL
              try simp only [Act.put, List.getElem_toArray, List.getElem_cons_zero, List.getElem_cons_succ, List.setIfInBounds_toArray, List.set_cons_zero, List.set_cons_succ]
              refine wpAnyH_ready (rs := [11]) (by kernel_rfl) (by simp) ?_
              refine AllReadyH.cons rfl (fun K hK => ?_) AllReadyH.nil
              go_simp
              refine (AK.out _).mono ?_
              rintro ex wa ⟨rfl, hba⟩
              have HBA := Lib.hid (((Below.refl wo.heap.size wo).drew).trans hba)
              have hsa := SF.out wa HBA.out
              clear hba
              go_wp2_with fail
              refine hK.out _ _ hsa (fun hHeld2 => ?_)
              clear hK K hHeld
              have hHeld := hHeld2
              clear hHeld2
              try simp only [Act.put, List.getElem_toArray, List.getElem_cons_zero, List.getElem_cons_succ, List.setIfInBounds_toArray, List.set_cons_zero, List.set_cons_succ]
              refine wpAnyH_take (i := 12) (v := ?_) rfl (by kernel_rfl) (by kernel_rfl) (by kernel_rfl) (fun _ _ _ h => h) (Or.inl ⟨by rfl, ?rf12⟩) hHeld ?_
              case rf12 =>
                intro wS hSw
                have k0 := hSw.1
                clear hSw
                go_simp
                try with_reducible rfl
              try simp only [Act.put, List.getElem_toArray, List.getElem_cons_zero, List.getElem_cons_succ, List.setIfInBounds_toArray, List.set_cons_zero, List.set_cons_succ]
              refine wpAnyH_done (by kernel_rfl) ?_ _
              clear hHeld
              try simp only [Act.put, List.getElem_toArray, List.getElem_cons_zero, List.getElem_cons_succ, List.setIfInBounds_toArray, List.set_cons_zero, List.set_cons_succ]
              clear hsa
              go_wp2
              go_roundw
              case rel => exact ⟨i + 1, by omega, by go_num, Lib.hid (HA.out.below HBA.out)⟩
              case measure => simp [RowKit.intOf]; omega
            · have h20 : (20 : Int) ≤ (L.length : Int) + 20 := by omega
              go_wp2
              go_ret
              exact ⟨rfl, HA.out.be⟩
end Go.Proofs.YtpbhkaokgpacoaaGreatDoor.St
