import Derived.Test.YtkeegnhjemhblaaGreatDoorZPRbCrc
import Derived.Test.YtkeegnhjemhblaaGreatDoorZPRbHeld
import Derived.Test.YtkeegnhjemhblaaGreatDoorZPSrPieces
import Derived.WalkLawsBesides
set_option linter.unusedSimpArgs false
set_option linter.unusedVariables false
/-
  The contract of the reference's put. Printed by genrb.py.
-/
namespace Go.Proofs.YtkeegnhjemhblaaGreatDoor.Rb
open Go.RowKit Go.Maps Go.WideMaps Go.Proofs.YtkeegnhjemhblaaGreatDoor.Rf Go.Proofs.YtkeegnhjemhblaaGreatDoor.Sr
variable {Z : BM}
noncomputable def rpR (n : Nat) : Code := (Tryz.f105.body.bind (findR n)).getD .skip

theorem infoBr : (Tryz.prog.info? BrT).map (fun i => (i.zero, i.size, i.bytes)) = some (some (.agg #[.string ⟨#[]⟩, .slice none 0 0]), 2, 40) := by kernel_rfl
theorem undB : Tryz.prog.underlying 34 = some (.slice (Tryz.prog.elem 34)) := by kernel_rfl
theorem sizeB (w : World) : (sizeOf (Tryz.prog.elem 34)).run Tryz.prog w = .ok 2 w := by kernel_rfl
theorem br_one {Y : BM} (h : ∀ p ∈ Z, p.2.1.oneCell' = true) (hs : ∀ p ∈ Y, p ∈ Z) : ∀ u ∈ bcells Y, u.oneCell' = true := by
  intro u hu
  obtain ⟨p, hp, hu⟩ := List.mem_flatMap.1 hu
  simp only [brC, List.mem_cons, List.not_mem_nil, or_false] at hu
  rcases hu with rfl | rfl
  · rfl
  · exact h p (hs p hp)
set_option linter.unusedSimpArgs false in
set_option maxHeartbeats 40000000 in
set_option maxRecDepth 100000 in
theorem rput_p4 {Q : Exit → Act → World → Prop} (u1 u2 u5 u6 u7 u8 u9 u10 u11 u12 u13 u14 u15 u16 u17 u18 u19 u20 u21 u22 u23 u24 u25 u26 u27 u28 u29 u30 u31 u32 u33 u34 u35 u36 u37 u38 u39 u40 u41 u42 u43 u44 u45 u46 u47 : Value) {B r xb ia vc : Nat} {va : Option Addr} {Z : BM} {p : List UInt8 × (Value × List En)} {w1 : World}
    (hP : ∀ c (a a' : Act) w, a.defers = a'.defers → Q (.panic c) a w → Q (.panic c) a' w) (hn : Z.length ≤ 64) (hil : ia ≤ Z.length) (H : Hid (RBk B w1 r (.slice va Z.length vc) Z)) (HXB : Hid (w1.heap[xb]? = some (.cells (brC p).toArray BrT))) (ho : p.2.1.oneCell' = true) (hz : ∀ q ∈ Z, q.2.1.oneCell' = true)
    (HK : ∀ (t27 t28 t29 t30 t31 t32 t33 t34 t35 t36 t37 t38 t39 t40 t41 t42 t43 t44 t45 t46 t47 : Value) (w' : World), (∃ v' wc, w' = wc.setCell ⟨r, 0, none⟩ v' ∧ Below w1.heap.size w1 wc ∧ wc.ownsRow w1.heap.size BrT 2 v' (Z.length + 1) (bcells (Z.take ia ++ p :: Z.drop ia))) → Q .normal ⟨#[.pointer (some ⟨r, 0, none⟩), u1, u2, .pointer (some ⟨xb, 0, none⟩), .int .i64 (ia : Int), u5, u6, u7, u8, u9, u10, u11, u12, u13, u14, u15, u16, u17, u18, u19, u20, u21, u22, u23, u24, u25, u26, t27, t28, t29, t30, t31, t32, t33, t34, t35, t36, t37, t38, t39, t40, t41, t42, t43, t44, t45, t46, t47], []⟩ w') :
    Code.wp Tryz.prog (rpR 4) Q ⟨#[.pointer (some ⟨r, 0, none⟩), u1, u2, .pointer (some ⟨xb, 0, none⟩), .int .i64 (ia : Int), u5, u6, u7, u8, u9, u10, u11, u12, u13, u14, u15, u16, u17, u18, u19, u20, u21, u22, u23, u24, u25, u26, u27, u28, u29, u30, u31, u32, u33, u34, u35, u36, u37, u38, u39, u40, u41, u42, u43, u44, u45, u46, u47], []⟩ w1 := by
  have HKH := Lib.hid HK
  clear HK
  conv => arg 2; whnf
  obtain ⟨i0, hi0, hz0, hz1, hz2⟩ := info_parts infoBr
  have hz3 : (Value.agg #[.string ⟨#[]⟩, .slice none 0 0]).cells.size = 2 := by kernel_rfl
  have hrow := H.out.row
  obtain ⟨xc, hxc⟩ : ∃ xc, xc = brC p := ⟨_, rfl⟩
  have KR : Hid (∀ w' : World, Below w1.heap.size w1 w' → w'.cell? ⟨r, 0, none⟩ = some (.slice va Z.length vc) ∧ w'.rangeAt xb 0 xc) := Lib.hid (fun w' hb => by
    have hq := (hb.block _ (lt_of_heap HXB.out)).trans HXB.out
    exact ⟨cell_of_heap (H.out.below hb).book, fun j u hu => by rw [hxc] at hu; rw [cell_of_heap hq, List.getElem?_toArray, Nat.zero_add]; exact hu⟩)
  have KF : Hid (∀ w' : World, Below w1.heap.size w1 w' → w'.frozen? ⟨r, 0, none⟩ = false) := Lib.hid (fun w' hb => frozen_of_heap (H.out.below hb).book)
  have HC2 : Hid (xc.length = 2) := Lib.hid (by rw [hxc]; rfl)
  have HXO : Hid (∀ u ∈ xc, u.oneCell' = true) := Lib.hid (fun u hu => by
    rw [hxc] at hu
    simp only [brC, List.mem_cons, List.not_mem_nil, or_false] at hu
    rcases hu with rfl | rfl
    · rfl
    · exact ho)
  have HIN : Hid ((Tryz.prog.info? 113).map (·.size) = some xc.toArray.size) := Lib.hid (by rw [hxc]; show _ = some 2; kernel_rfl)
  have HON := Lib.hid hz
  have HB1 : Hid (∀ q ∈ Z.take ia, q ∈ Z) := Lib.hid (fun q hq => List.mem_of_mem_take hq)
  have HB2 : Hid (∀ q ∈ Z.drop ia, q ∈ Z) := Lib.hid (fun q hq => List.mem_of_mem_drop hq)
  have END : Hid (∀ (wc : World) (a : Option Addr) (n c : Nat), wc.ownsRow w1.heap.size 113 2 (.slice a n c) (ia + 1 + (Z.length - ia)) ([] ++ bcells (Z.take ia) ++ xc ++ bcells (Z.drop ia)) → wc.ownsRow w1.heap.size BrT 2 (.slice a n c) (Z.length + 1) (bcells (Z.take ia ++ p :: Z.drop ia))) := Lib.hid (fun wc a n c ho => by
    have e1 : ia + 1 + (Z.length - ia) = Z.length + 1 := by omega
    rw [e1, hxc] at ho
    rw [bcells_append, show bcells (p :: Z.drop ia) = brC p ++ bcells (Z.drop ia) from rfl, ← List.append_assoc]
    exact ho)
  have HL1 : Hid ((bcells (Z.take ia)).length = ia * 2) := Lib.hid (by rw [bcells_length, List.length_take, Nat.min_eq_left hil])
  have HL2 : Hid ((bcells (Z.drop ia)).length = (Z.length - ia) * 2) := Lib.hid (by rw [bcells_length, List.length_drop])
  obtain ⟨x7, hx7, h7, h7b⟩ := slice_frontN 2 undB sizeB hrow (by unfold maxLen; omega) hil
  obtain ⟨x17, hx17, h17, h17b⟩ := slice_backN 2 undB sizeB hrow (by unfold maxLen; omega) hil
  rw [bcells_take] at h7
  rw [bcells_drop] at h17
  have HX7 := Lib.hid hx7; have H7 := Lib.hid h7; have HX17 := Lib.hid hx17; have H17 := Lib.hid h17
  have HX7B : Hid (∀ a c, x7 = .slice (some a) ia c → a.block < w1.heap.size) := Lib.hid (fun a c e => rowS_lt hrow _ (h7b a c e))
  have HX17B : Hid (∀ a c, x17 = .slice (some a) (Z.length - ia) c → a.block < w1.heap.size) := Lib.hid (fun a c e => rowS_lt hrow _ (h17b a c e))
  clear hrow hx7 h7 hx17 h17 h7b h17b hxc ho hz
  refine region_held (S := (fun w' : World => w'.cell? ⟨r, 0, none⟩ = some (.slice va Z.length vc) ∧ w'.rangeAt xb 0 xc)) (k := 21) (by kernel_rfl) (KR.out _ (Below.refl _ _).drew) (fun hHeld => ?_)
  refine held_take (i := 0) (v := ?_) rfl (by kernel_rfl) (by kernel_rfl) (by kernel_rfl) (by kernel_rfl) (fun _ _ _ h => hP _ _ _ _ (by rfl) h) (Or.inl ⟨by rfl, ?d0⟩) hHeld ?_
  case d0 =>
    intro wS hSw
    have k0 := hSw.1
    clear hSw
    go_simp
    try with_reducible rfl
  try simp only [Act.put, List.getElem_toArray, List.getElem_cons_zero, List.getElem_cons_succ, List.setIfInBounds_toArray, List.set_cons_zero, List.set_cons_succ]
  refine held_take (i := 2) (v := ?_) rfl (by kernel_rfl) (by kernel_rfl) (by kernel_rfl) (by kernel_rfl) (fun _ _ _ h => hP _ _ _ _ (by rfl) h) (Or.inl ⟨by rfl, ?d1⟩) hHeld ?_
  case d1 =>
    intro wS hSw
    have k0 := hSw.1
    clear hSw
    go_simp
    try with_reducible rfl
  try simp only [Act.put, List.getElem_toArray, List.getElem_cons_zero, List.getElem_cons_succ, List.setIfInBounds_toArray, List.set_cons_zero, List.set_cons_succ]
  refine held_take (i := 3) (v := ?_) rfl (by kernel_rfl) (by kernel_rfl) (by kernel_rfl) (by kernel_rfl) (fun _ _ _ h => hP _ _ _ _ (by rfl) h) (Or.inl ⟨by rfl, ?d2⟩) hHeld ?_
  case d2 =>
    intro wS hSw
    have k0 := hSw.1
    clear hSw
    go_simp
    try with_reducible rfl
  try simp only [Act.put, List.getElem_toArray, List.getElem_cons_zero, List.getElem_cons_succ, List.setIfInBounds_toArray, List.set_cons_zero, List.set_cons_succ]
  refine held_take (i := 4) (v := ?_) rfl (by kernel_rfl) (by kernel_rfl) (by kernel_rfl) (by kernel_rfl) (fun _ _ _ h => hP _ _ _ _ (by rfl) h) (Or.inl ⟨by rfl, ?d3⟩) hHeld ?_
  case d3 =>
    intro wS hSw
    have k0 := hSw.1
    clear hSw
    go_simp
    try with_reducible rfl
  try simp only [Act.put, List.getElem_toArray, List.getElem_cons_zero, List.getElem_cons_succ, List.setIfInBounds_toArray, List.set_cons_zero, List.set_cons_succ]
  refine held_take (i := 5) (v := ?_) rfl (by kernel_rfl) (by kernel_rfl) (by kernel_rfl) (by kernel_rfl) (fun _ _ _ h => hP _ _ _ _ (by rfl) h) (Or.inl ⟨by rfl, ?d4⟩) hHeld ?_
  case d4 =>
    intro wS hSw
    have k0 := hSw.1
    clear hSw
    go_simp
    try with_reducible rfl
  try simp only [Act.put, List.getElem_toArray, List.getElem_cons_zero, List.getElem_cons_succ, List.setIfInBounds_toArray, List.set_cons_zero, List.set_cons_succ]
  refine held_take (i := 6) (v := ?_) rfl (by kernel_rfl) (by kernel_rfl) (by kernel_rfl) (by kernel_rfl) (fun _ _ _ h => hP _ _ _ _ (by rfl) h) (Or.inl ⟨by rfl, ?d5⟩) hHeld ?_
  case d5 =>
    intro wS hSw
    have k0 := hSw.1
    clear hSw
    go_simp
    try with_reducible rfl
  try simp only [Act.put, List.getElem_toArray, List.getElem_cons_zero, List.getElem_cons_succ, List.setIfInBounds_toArray, List.set_cons_zero, List.set_cons_succ]
  refine held_take (i := 7) (v := x7) rfl (by kernel_rfl) (by kernel_rfl) (by kernel_rfl) (by kernel_rfl) (fun _ _ _ h => hP _ _ _ _ (by rfl) h) (Or.inl ⟨by rfl, ?d6⟩) hHeld ?_
  case d6 =>
    intro wS hSw
    refine exec_sliceN 34 (.tmp 32) none (some (.tmp 33)) (.slice va Z.length vc) x7 none (some (.int .i64 (ia : Int))) undB ?_ ?_ ?_ ?_ (HX7.out wS)
    all_goals first | rfl | kernel_rfl
  try simp only [Act.put, List.getElem_toArray, List.getElem_cons_zero, List.getElem_cons_succ, List.setIfInBounds_toArray, List.set_cons_zero, List.set_cons_succ]
  refine' held_take (i := 9) (v := _) rfl (by kernel_rfl) (by kernel_rfl) (by kernel_rfl) (by kernel_rfl) (fun _ _ _ h => hP _ _ _ _ (by rfl) h) (yieldsIf_load_mid (by rfl) _ _ rfl xb 0 rfl xc _ ?d7S ?d7u ?d7d ?d7i) hHeld ?d7x
  case d7S =>
    intro wS hSw
    exact hSw.2
  case d7u => exact Tryz.underlying113
  case d7d => rfl
  case d7i => exact HIN.out
  try simp only [Act.put, List.getElem_toArray, List.getElem_cons_zero, List.getElem_cons_succ, List.setIfInBounds_toArray, List.set_cons_zero, List.set_cons_succ]
  refine held_take (i := 12) (v := ?_) rfl (by kernel_rfl) (by kernel_rfl) (by kernel_rfl) (by kernel_rfl) (fun _ _ _ h => hP _ _ _ _ (by rfl) h) (Or.inl ⟨by rfl, ?d8⟩) hHeld ?_
  case d8 =>
    intro wS hSw
    have k0 := hSw.1
    clear hSw
    go_simp
    try with_reducible rfl
  try simp only [Act.put, List.getElem_toArray, List.getElem_cons_zero, List.getElem_cons_succ, List.setIfInBounds_toArray, List.set_cons_zero, List.set_cons_succ]
  refine held_take (i := 13) (v := ?_) rfl (by kernel_rfl) (by kernel_rfl) (by kernel_rfl) (by kernel_rfl) (fun _ _ _ h => hP _ _ _ _ (by rfl) h) (Or.inl ⟨by rfl, ?d9⟩) hHeld ?_
  case d9 =>
    intro wS hSw
    have k0 := hSw.1
    clear hSw
    go_simp
    try with_reducible rfl
  try simp only [Act.put, List.getElem_toArray, List.getElem_cons_zero, List.getElem_cons_succ, List.setIfInBounds_toArray, List.set_cons_zero, List.set_cons_succ]
  refine held_take (i := 14) (v := ?_) rfl (by kernel_rfl) (by kernel_rfl) (by kernel_rfl) (by kernel_rfl) (fun _ _ _ h => hP _ _ _ _ (by rfl) h) (Or.inl ⟨by rfl, ?d10⟩) hHeld ?_
  case d10 =>
    intro wS hSw
    have k0 := hSw.1
    clear hSw
    go_simp
    try with_reducible rfl
  try simp only [Act.put, List.getElem_toArray, List.getElem_cons_zero, List.getElem_cons_succ, List.setIfInBounds_toArray, List.set_cons_zero, List.set_cons_succ]
  refine held_take (i := 15) (v := ?_) rfl (by kernel_rfl) (by kernel_rfl) (by kernel_rfl) (by kernel_rfl) (fun _ _ _ h => hP _ _ _ _ (by rfl) h) (Or.inl ⟨by rfl, ?d11⟩) hHeld ?_
  case d11 =>
    intro wS hSw
    have k0 := hSw.1
    clear hSw
    go_simp
    try with_reducible rfl
  try simp only [Act.put, List.getElem_toArray, List.getElem_cons_zero, List.getElem_cons_succ, List.setIfInBounds_toArray, List.set_cons_zero, List.set_cons_succ]
  refine held_take (i := 16) (v := ?_) rfl (by kernel_rfl) (by kernel_rfl) (by kernel_rfl) (by kernel_rfl) (fun _ _ _ h => hP _ _ _ _ (by rfl) h) (Or.inl ⟨by rfl, ?d12⟩) hHeld ?_
  case d12 =>
    intro wS hSw
    have k0 := hSw.1
    clear hSw
    go_simp
    try with_reducible rfl
  try simp only [Act.put, List.getElem_toArray, List.getElem_cons_zero, List.getElem_cons_succ, List.setIfInBounds_toArray, List.set_cons_zero, List.set_cons_succ]
  refine held_take (i := 17) (v := x17) rfl (by kernel_rfl) (by kernel_rfl) (by kernel_rfl) (by kernel_rfl) (fun _ _ _ h => hP _ _ _ _ (by rfl) h) (Or.inl ⟨by rfl, ?d13⟩) hHeld ?_
  case d13 =>
    intro wS hSw
    refine exec_sliceN 34 (.tmp 42) (some (.tmp 43)) none (.slice va Z.length vc) x17 (some (.int .i64 (ia : Int))) none undB ?_ ?_ ?_ ?_ (HX17.out wS)
    all_goals first | rfl | kernel_rfl
  try simp only [Act.put, List.getElem_toArray, List.getElem_cons_zero, List.getElem_cons_succ, List.setIfInBounds_toArray, List.set_cons_zero, List.set_cons_succ]
  refine held_ready (rs := [1, 10]) (by kernel_rfl) (by simp) ?_
  refine AllHeld.cons rfl (fun K hK => ?_) (AllHeld.cons rfl (fun K hK => ?_) AllHeld.nil)
  · skip
    refine step_wp rfl ?_
    refine wp_noneN 2 34 113 i0 _ rfl Tryz.underlying34 hi0 hz0 hz1 ?_
    intro x1 wa ho1 hg1 hx1
    have hx1 : ∀ b, x1.ownBlock = some b → b = w1.heap.size := hx1
    have HBwa : Hid (Below w1.heap.size w1 wa) := Lib.hid ((Below.refl w1.heap.size w1).drew.grown hg1 (Below.refl w1.heap.size w1).drew.size (fun k hk => nomatch hk))
    have ka := KR.out wa HBwa.out
    have ho1 : wa.ownsRow w1.heap.size 113 2 x1 0 [] := row_mono ho1 (Below.refl w1.heap.size w1).drew.size
    refine hK.out _ _ (fun _ => ka) (fun hHeld => ?_)
    clear hK K
    have hHeld := hHeld (by decide)
    try simp only [Act.put, List.getElem_toArray, List.getElem_cons_zero, List.getElem_cons_succ, List.setIfInBounds_toArray, List.set_cons_zero, List.set_cons_succ]
    refine held_ready (rs := [8, 10]) (by kernel_rfl) (by simp) ?_
    refine AllHeld.cons rfl (fun K hK => ?_) (AllHeld.cons rfl (fun K hK => ?_) AllHeld.nil)
    · skip
      refine step_wp rfl ?_
      refine wp_append_holdN 2 (by decide) (.tmp 28) (.tmp 34) 34 rfl w1.heap.size 113 i0 _ 40 Tryz.underlying34 hi0 hz0 hz1 hz2 hz3 x1 0 [] ?ama ho1 x7 ia (bcells (Z.take ia)) ?bma (H7.out.kept (fun a c e _ => HBwa.out.block _ (HX7B.out a c e))) ?cma ?dma ?ema ?fma ?gma ?hma
      case ama => rfl
      case bma => rfl
      case cma => exact HL1.out
      case dma => exact br_one HON.out HB1.out
      case ema => unfold maxLen; omega
      case fma => omega
      case gma => exact HBwa.out.size
      intro x8 wb ho8 hg8 hx8
      have HBwb : Hid (Below w1.heap.size w1 wb) := Lib.hid (HBwa.out.grown hg8 HBwa.out.size (fun k hk => rowS_ge ho1 k (by simp [ob, hk])))
      have ka := KR.out wb HBwb.out
      refine hK.out _ _ (fun _ => ka) (fun hHeld => ?_)
      clear hK K
      have hHeld := hHeld (by decide)
      try simp only [Act.put, List.getElem_toArray, List.getElem_cons_zero, List.getElem_cons_succ, List.setIfInBounds_toArray, List.set_cons_zero, List.set_cons_succ]
      refine held_ready (rs := [10]) (by kernel_rfl) (by simp) ?_
      refine AllHeld.cons rfl (fun K hK => ?_) AllHeld.nil
      refine step_wp rfl ?_
      refine wp_oneH 2 (by decide) (by decide) 34 113 (.tmp 36) xc i0 _ rfl rfl Tryz.underlying34 hi0 hz0 hz1 HC2.out ?_
      intro x10 we hh10 hg10 hx10 hs10
      have hx10 : ∀ ad c, x10 = .slice (some ad) 1 c → ad.block = wb.heap.size := hx10
      have hs10 : wb.heap.size < we.heap.size := hs10
      have HBwe : Hid (Below w1.heap.size w1 we) := Lib.hid (HBwb.out.grown hg10 HBwb.out.size (fun k hk => nomatch hk))
      have ka := KR.out we HBwe.out
      have ho8 : we.ownsRow w1.heap.size 113 2 x8 (0 + ia) ([] ++ bcells (Z.take ia)) := rowS_kept ho8 (fun b _ hl => hg10.block b hl (fun h => nomatch h))
      refine hK.out _ _ (fun _ => ka) (fun hHeld => ?_)
      clear hK K
      have hHeld := hHeld (by decide)
      try simp only [Act.put, List.getElem_toArray, List.getElem_cons_zero, List.getElem_cons_succ, List.setIfInBounds_toArray, List.set_cons_zero, List.set_cons_succ]
      refine held_ready (rs := [11]) (by kernel_rfl) (by simp) ?_
      refine AllHeld.cons rfl (fun K hK => ?_) AllHeld.nil
      refine step_wp rfl ?_
      refine wp_append_holdN 2 (by decide) (.tmp 35) (.tmp 37) 34 rfl w1.heap.size 113 i0 _ 40 Tryz.underlying34 hi0 hz0 hz1 hz2 hz3 x8 (0 + ia) ([] ++ bcells (Z.take ia)) ?aua ho8 x10 1 xc ?bua hh10 ?cua ?dua ?eua ?fua ?gua ?hua
      case aua => rfl
      case bua => rfl
      case cua => exact HC2.out
      case dua => exact HXO.out
      case eua => unfold maxLen; omega
      case fua => omega
      case gua => exact HBwe.out.size
      intro x11 wd ho11 hg11 hx11
      have HBD : Hid (Below w1.heap.size w1 wd) := Lib.hid (HBwe.out.grown hg11 HBwe.out.size (fun k hk => rowS_ge ho8 k (by simp [ob, hk])))
      have ka := KR.out wd HBD.out
      refine hK.out _ _ (fun _ => ka) (fun hHeld => ?_)
      clear hK K
      have hHeld := hHeld (by decide)
      try simp only [Act.put, List.getElem_toArray, List.getElem_cons_zero, List.getElem_cons_succ, List.setIfInBounds_toArray, List.set_cons_zero, List.set_cons_succ]
      refine held_ready (rs := [18]) (by kernel_rfl) (by simp) ?_
      refine AllHeld.cons rfl (fun K hK => ?_) AllHeld.nil
      refine step_wp rfl ?_
      refine wp_append_holdN 2 (by decide) (.tmp 38) (.tmp 44) 34 rfl w1.heap.size 113 i0 _ 40 Tryz.underlying34 hi0 hz0 hz1 hz2 hz3 x11 (0 + ia + 1) ([] ++ bcells (Z.take ia) ++ xc) ?ava ho11 x17 (Z.length - ia) (bcells (Z.drop ia)) ?bva (H17.out.kept (fun a c e _ => HBD.out.block _ (HX17B.out a c e))) ?cva ?dva ?eva ?fva ?gva ?hva
      case ava => rfl
      case bva => rfl
      case cva => exact HL2.out
      case dva => exact br_one HON.out HB2.out
      case eva => unfold maxLen; omega
      case fva => omega
      case gva => exact HBD.out.size
      intro x18 wc ho18 hg18 hx18
      have HBC : Hid (Below w1.heap.size w1 wc) := Lib.hid (HBD.out.grown hg18 HBD.out.size (fun k hk => rowS_ge ho11 k (by simp [ob, hk])))
      obtain ⟨a18, c18, rfl⟩ := rowS_slice ho18
      have ka := KR.out wc HBC.out
      have kf : wc.frozen? ⟨r, 0, none⟩ = false := KF.out wc HBC.out
      refine hK.out _ _ (fun _ => ka) (fun hHeld => ?_)
      clear hK K
      have hHeld := hHeld (by decide)
      try simp only [Act.put, List.getElem_toArray, List.getElem_cons_zero, List.getElem_cons_succ, List.setIfInBounds_toArray, List.set_cons_zero, List.set_cons_succ]
      refine held_ready (rs := [19]) (by kernel_rfl) (by simp) ?_
      refine AllHeld.cons rfl (fun K hK => ?_) AllHeld.nil
      have ka1 := ka.1
      go_simp
      refine hK.out _ _ (fun _ => ka) (fun hHeld => ?_)
      clear hK K
      have hHeld := hHeld (by decide)
      try simp only [Act.put, List.getElem_toArray, List.getElem_cons_zero, List.getElem_cons_succ, List.setIfInBounds_toArray, List.set_cons_zero, List.set_cons_succ]
      refine held_ready (rs := [20]) (by kernel_rfl) (by simp) ?_
      refine AllHeld.cons rfl (fun K hK => ?_) AllHeld.nil
      have ka1 := ka.1
      go_simp
      refine hK.out _ _ (fun _ => ka) (fun hHeld => ?_)
      clear hK K
      have hHeld := hHeld (by decide)
      try simp only [Act.put, List.getElem_toArray, List.getElem_cons_zero, List.getElem_cons_succ, List.setIfInBounds_toArray, List.set_cons_zero, List.set_cons_succ]
      refine held_ready (rs := [21]) (by kernel_rfl) (by simp) ?_
      refine AllHeld.cons rfl (fun K hK => ?_) AllHeld.nil
      have ka1 := ka.1
      go_simp
      refine hK.out _ _ (fun h => absurd rfl h) (fun _ => ?_)
      clear hK K
      try simp only [Act.put, List.getElem_toArray, List.getElem_cons_zero, List.getElem_cons_succ, List.setIfInBounds_toArray, List.set_cons_zero, List.set_cons_succ]
      refine held_done (by kernel_rfl) ?_ _
      clear hHeld
      try simp only [Act.put, List.getElem_toArray, List.getElem_cons_zero, List.getElem_cons_succ, List.setIfInBounds_toArray, List.set_cons_zero, List.set_cons_succ]
      rw [Nat.zero_add] at ho18
      exact HKH.out _ _ _ _ _ _ _ _ _ _ _ _ _ _ _ _ _ _ _ _ _ _ ⟨_, wc, rfl, HBC.out, END.out _ _ _ _ ho18⟩
    · skip
      refine step_wp rfl ?_
      refine wp_oneH 2 (by decide) (by decide) 34 113 (.tmp 36) xc i0 _ rfl rfl Tryz.underlying34 hi0 hz0 hz1 HC2.out ?_
      intro x10 wb hh10 hg10 hx10 hs10
      have hx10 : ∀ ad c, x10 = .slice (some ad) 1 c → ad.block = wa.heap.size := hx10
      have hs10 : wa.heap.size < wb.heap.size := hs10
      have HBwb : Hid (Below w1.heap.size w1 wb) := Lib.hid (HBwa.out.grown hg10 HBwa.out.size (fun k hk => nomatch hk))
      have ka := KR.out wb HBwb.out
      have ho1a := ho1
      have ho1 : wb.ownsRow w1.heap.size 113 2 x1 0 [] := rowS_kept ho1 (fun b _ hl => hg10.block b hl (fun h => nomatch h))
      have hlt1 : ∀ k, x1.ownBlock = some k → k < wa.heap.size := fun k hk => rowS_lt ho1a k (by simp [ob, hk])
      refine hK.out _ _ (fun _ => ka) (fun hHeld => ?_)
      clear hK K
      have hHeld := hHeld (by decide)
      try simp only [Act.put, List.getElem_toArray, List.getElem_cons_zero, List.getElem_cons_succ, List.setIfInBounds_toArray, List.set_cons_zero, List.set_cons_succ]
      refine held_ready (rs := [8]) (by kernel_rfl) (by simp) ?_
      refine AllHeld.cons rfl (fun K hK => ?_) AllHeld.nil
      refine step_wp rfl ?_
      refine wp_append_holdN 2 (by decide) (.tmp 28) (.tmp 34) 34 rfl w1.heap.size 113 i0 _ 40 Tryz.underlying34 hi0 hz0 hz1 hz2 hz3 x1 0 [] ?amb ho1 x7 ia (bcells (Z.take ia)) ?bmb (H7.out.kept (fun a c e _ => HBwb.out.block _ (HX7B.out a c e))) ?cmb ?dmb ?emb ?fmb ?gmb ?hmb
      case amb => rfl
      case bmb => rfl
      case cmb => exact HL1.out
      case dmb => exact br_one HON.out HB1.out
      case emb => unfold maxLen; omega
      case fmb => omega
      case gmb => exact HBwb.out.size
      intro x8 we ho8 hg8 hx8
      have HBwe : Hid (Below w1.heap.size w1 we) := Lib.hid (HBwb.out.grown hg8 HBwb.out.size (fun k hk => rowS_ge ho1 k (by simp [ob, hk])))
      have ka := KR.out we HBwe.out
      have hh10 : HoldN we x10 1 xc := hh10.kept (fun ad c ea _ => by have h10 := hx10 ad c ea; refine hg8.block _ (by omega) (fun h => ?_); have := hlt1 _ h.symm; omega)
      refine hK.out _ _ (fun _ => ka) (fun hHeld => ?_)
      clear hK K
      have hHeld := hHeld (by decide)
      try simp only [Act.put, List.getElem_toArray, List.getElem_cons_zero, List.getElem_cons_succ, List.setIfInBounds_toArray, List.set_cons_zero, List.set_cons_succ]
      refine held_ready (rs := [11]) (by kernel_rfl) (by simp) ?_
      refine AllHeld.cons rfl (fun K hK => ?_) AllHeld.nil
      refine step_wp rfl ?_
      refine wp_append_holdN 2 (by decide) (.tmp 35) (.tmp 37) 34 rfl w1.heap.size 113 i0 _ 40 Tryz.underlying34 hi0 hz0 hz1 hz2 hz3 x8 (0 + ia) ([] ++ bcells (Z.take ia)) ?aub ho8 x10 1 xc ?bub hh10 ?cub ?dub ?eub ?fub ?gub ?hub
      case aub => rfl
      case bub => rfl
      case cub => exact HC2.out
      case dub => exact HXO.out
      case eub => unfold maxLen; omega
      case fub => omega
      case gub => exact HBwe.out.size
      intro x11 wd ho11 hg11 hx11
      have HBD : Hid (Below w1.heap.size w1 wd) := Lib.hid (HBwe.out.grown hg11 HBwe.out.size (fun k hk => rowS_ge ho8 k (by simp [ob, hk])))
      have ka := KR.out wd HBD.out
      refine hK.out _ _ (fun _ => ka) (fun hHeld => ?_)
      clear hK K
      have hHeld := hHeld (by decide)
      try simp only [Act.put, List.getElem_toArray, List.getElem_cons_zero, List.getElem_cons_succ, List.setIfInBounds_toArray, List.set_cons_zero, List.set_cons_succ]
      refine held_ready (rs := [18]) (by kernel_rfl) (by simp) ?_
      refine AllHeld.cons rfl (fun K hK => ?_) AllHeld.nil
      refine step_wp rfl ?_
      refine wp_append_holdN 2 (by decide) (.tmp 38) (.tmp 44) 34 rfl w1.heap.size 113 i0 _ 40 Tryz.underlying34 hi0 hz0 hz1 hz2 hz3 x11 (0 + ia + 1) ([] ++ bcells (Z.take ia) ++ xc) ?avb ho11 x17 (Z.length - ia) (bcells (Z.drop ia)) ?bvb (H17.out.kept (fun a c e _ => HBD.out.block _ (HX17B.out a c e))) ?cvb ?dvb ?evb ?fvb ?gvb ?hvb
      case avb => rfl
      case bvb => rfl
      case cvb => exact HL2.out
      case dvb => exact br_one HON.out HB2.out
      case evb => unfold maxLen; omega
      case fvb => omega
      case gvb => exact HBD.out.size
      intro x18 wc ho18 hg18 hx18
      have HBC : Hid (Below w1.heap.size w1 wc) := Lib.hid (HBD.out.grown hg18 HBD.out.size (fun k hk => rowS_ge ho11 k (by simp [ob, hk])))
      obtain ⟨a18, c18, rfl⟩ := rowS_slice ho18
      have ka := KR.out wc HBC.out
      have kf : wc.frozen? ⟨r, 0, none⟩ = false := KF.out wc HBC.out
      refine hK.out _ _ (fun _ => ka) (fun hHeld => ?_)
      clear hK K
      have hHeld := hHeld (by decide)
      try simp only [Act.put, List.getElem_toArray, List.getElem_cons_zero, List.getElem_cons_succ, List.setIfInBounds_toArray, List.set_cons_zero, List.set_cons_succ]
      refine held_ready (rs := [19]) (by kernel_rfl) (by simp) ?_
      refine AllHeld.cons rfl (fun K hK => ?_) AllHeld.nil
      have ka1 := ka.1
      go_simp
      refine hK.out _ _ (fun _ => ka) (fun hHeld => ?_)
      clear hK K
      have hHeld := hHeld (by decide)
      try simp only [Act.put, List.getElem_toArray, List.getElem_cons_zero, List.getElem_cons_succ, List.setIfInBounds_toArray, List.set_cons_zero, List.set_cons_succ]
      refine held_ready (rs := [20]) (by kernel_rfl) (by simp) ?_
      refine AllHeld.cons rfl (fun K hK => ?_) AllHeld.nil
      have ka1 := ka.1
      go_simp
      refine hK.out _ _ (fun _ => ka) (fun hHeld => ?_)
      clear hK K
      have hHeld := hHeld (by decide)
      try simp only [Act.put, List.getElem_toArray, List.getElem_cons_zero, List.getElem_cons_succ, List.setIfInBounds_toArray, List.set_cons_zero, List.set_cons_succ]
      refine held_ready (rs := [21]) (by kernel_rfl) (by simp) ?_
      refine AllHeld.cons rfl (fun K hK => ?_) AllHeld.nil
      have ka1 := ka.1
      go_simp
      refine hK.out _ _ (fun h => absurd rfl h) (fun _ => ?_)
      clear hK K
      try simp only [Act.put, List.getElem_toArray, List.getElem_cons_zero, List.getElem_cons_succ, List.setIfInBounds_toArray, List.set_cons_zero, List.set_cons_succ]
      refine held_done (by kernel_rfl) ?_ _
      clear hHeld
      try simp only [Act.put, List.getElem_toArray, List.getElem_cons_zero, List.getElem_cons_succ, List.setIfInBounds_toArray, List.set_cons_zero, List.set_cons_succ]
      rw [Nat.zero_add] at ho18
      exact HKH.out _ _ _ _ _ _ _ _ _ _ _ _ _ _ _ _ _ _ _ _ _ _ ⟨_, wc, rfl, HBC.out, END.out _ _ _ _ ho18⟩
  · skip
    refine step_wp rfl ?_
    refine wp_oneH 2 (by decide) (by decide) 34 113 (.tmp 36) xc i0 _ rfl rfl Tryz.underlying34 hi0 hz0 hz1 HC2.out ?_
    intro x10 wa hh10 hg10 hx10 hs10
    have hx10 : ∀ ad c, x10 = .slice (some ad) 1 c → ad.block = w1.heap.size := hx10
    have hs10 : w1.heap.size < wa.heap.size := hs10
    have HBwa : Hid (Below w1.heap.size w1 wa) := Lib.hid ((Below.refl w1.heap.size w1).drew.grown hg10 (Below.refl w1.heap.size w1).drew.size (fun k hk => nomatch hk))
    have ka := KR.out wa HBwa.out
    refine hK.out _ _ (fun _ => ka) (fun hHeld => ?_)
    clear hK K
    have hHeld := hHeld (by decide)
    try simp only [Act.put, List.getElem_toArray, List.getElem_cons_zero, List.getElem_cons_succ, List.setIfInBounds_toArray, List.set_cons_zero, List.set_cons_succ]
    refine held_ready (rs := [1]) (by kernel_rfl) (by simp) ?_
    refine AllHeld.cons rfl (fun K hK => ?_) AllHeld.nil
    refine step_wp rfl ?_
    refine wp_noneN 2 34 113 i0 _ rfl Tryz.underlying34 hi0 hz0 hz1 ?_
    intro x1 wb ho1 hg1 hx1
    have hx1 : ∀ b, x1.ownBlock = some b → b = wa.heap.size := hx1
    have HBwb : Hid (Below w1.heap.size w1 wb) := Lib.hid (HBwa.out.grown hg1 HBwa.out.size (fun k hk => nomatch hk))
    have ka := KR.out wb HBwb.out
    have ho1 : wb.ownsRow w1.heap.size 113 2 x1 0 [] := row_mono ho1 HBwa.out.size
    have hh10 : HoldN wb x10 1 xc := hh10.kept (fun ad c ea _ => by have h10 := hx10 ad c ea; exact hg1.block _ (by omega) (fun h => nomatch h))
    refine hK.out _ _ (fun _ => ka) (fun hHeld => ?_)
    clear hK K
    have hHeld := hHeld (by decide)
    try simp only [Act.put, List.getElem_toArray, List.getElem_cons_zero, List.getElem_cons_succ, List.setIfInBounds_toArray, List.set_cons_zero, List.set_cons_succ]
    refine held_ready (rs := [8]) (by kernel_rfl) (by simp) ?_
    refine AllHeld.cons rfl (fun K hK => ?_) AllHeld.nil
    refine step_wp rfl ?_
    refine wp_append_holdN 2 (by decide) (.tmp 28) (.tmp 34) 34 rfl w1.heap.size 113 i0 _ 40 Tryz.underlying34 hi0 hz0 hz1 hz2 hz3 x1 0 [] ?amc ho1 x7 ia (bcells (Z.take ia)) ?bmc (H7.out.kept (fun a c e _ => HBwb.out.block _ (HX7B.out a c e))) ?cmc ?dmc ?emc ?fmc ?gmc ?hmc
    case amc => rfl
    case bmc => rfl
    case cmc => exact HL1.out
    case dmc => exact br_one HON.out HB1.out
    case emc => unfold maxLen; omega
    case fmc => omega
    case gmc => exact HBwb.out.size
    intro x8 we ho8 hg8 hx8
    have HBwe : Hid (Below w1.heap.size w1 we) := Lib.hid (HBwb.out.grown hg8 HBwb.out.size (fun k hk => rowS_ge ho1 k (by simp [ob, hk])))
    have ka := KR.out we HBwe.out
    have hh10 : HoldN we x10 1 xc := hh10.kept (fun ad c ea _ => by have h10 := hx10 ad c ea; have := hg1.size; refine hg8.block _ (by omega) (fun h => ?_); have := hx1 _ h.symm; omega)
    refine hK.out _ _ (fun _ => ka) (fun hHeld => ?_)
    clear hK K
    have hHeld := hHeld (by decide)
    try simp only [Act.put, List.getElem_toArray, List.getElem_cons_zero, List.getElem_cons_succ, List.setIfInBounds_toArray, List.set_cons_zero, List.set_cons_succ]
    refine held_ready (rs := [11]) (by kernel_rfl) (by simp) ?_
    refine AllHeld.cons rfl (fun K hK => ?_) AllHeld.nil
    refine step_wp rfl ?_
    refine wp_append_holdN 2 (by decide) (.tmp 35) (.tmp 37) 34 rfl w1.heap.size 113 i0 _ 40 Tryz.underlying34 hi0 hz0 hz1 hz2 hz3 x8 (0 + ia) ([] ++ bcells (Z.take ia)) ?auc ho8 x10 1 xc ?buc hh10 ?cuc ?duc ?euc ?fuc ?guc ?huc
    case auc => rfl
    case buc => rfl
    case cuc => exact HC2.out
    case duc => exact HXO.out
    case euc => unfold maxLen; omega
    case fuc => omega
    case guc => exact HBwe.out.size
    intro x11 wd ho11 hg11 hx11
    have HBD : Hid (Below w1.heap.size w1 wd) := Lib.hid (HBwe.out.grown hg11 HBwe.out.size (fun k hk => rowS_ge ho8 k (by simp [ob, hk])))
    have ka := KR.out wd HBD.out
    refine hK.out _ _ (fun _ => ka) (fun hHeld => ?_)
    clear hK K
    have hHeld := hHeld (by decide)
    try simp only [Act.put, List.getElem_toArray, List.getElem_cons_zero, List.getElem_cons_succ, List.setIfInBounds_toArray, List.set_cons_zero, List.set_cons_succ]
    refine held_ready (rs := [18]) (by kernel_rfl) (by simp) ?_
    refine AllHeld.cons rfl (fun K hK => ?_) AllHeld.nil
    refine step_wp rfl ?_
    refine wp_append_holdN 2 (by decide) (.tmp 38) (.tmp 44) 34 rfl w1.heap.size 113 i0 _ 40 Tryz.underlying34 hi0 hz0 hz1 hz2 hz3 x11 (0 + ia + 1) ([] ++ bcells (Z.take ia) ++ xc) ?avc ho11 x17 (Z.length - ia) (bcells (Z.drop ia)) ?bvc (H17.out.kept (fun a c e _ => HBD.out.block _ (HX17B.out a c e))) ?cvc ?dvc ?evc ?fvc ?gvc ?hvc
    case avc => rfl
    case bvc => rfl
    case cvc => exact HL2.out
    case dvc => exact br_one HON.out HB2.out
    case evc => unfold maxLen; omega
    case fvc => omega
    case gvc => exact HBD.out.size
    intro x18 wc ho18 hg18 hx18
    have HBC : Hid (Below w1.heap.size w1 wc) := Lib.hid (HBD.out.grown hg18 HBD.out.size (fun k hk => rowS_ge ho11 k (by simp [ob, hk])))
    obtain ⟨a18, c18, rfl⟩ := rowS_slice ho18
    have ka := KR.out wc HBC.out
    have kf : wc.frozen? ⟨r, 0, none⟩ = false := KF.out wc HBC.out
    refine hK.out _ _ (fun _ => ka) (fun hHeld => ?_)
    clear hK K
    have hHeld := hHeld (by decide)
    try simp only [Act.put, List.getElem_toArray, List.getElem_cons_zero, List.getElem_cons_succ, List.setIfInBounds_toArray, List.set_cons_zero, List.set_cons_succ]
    refine held_ready (rs := [19]) (by kernel_rfl) (by simp) ?_
    refine AllHeld.cons rfl (fun K hK => ?_) AllHeld.nil
    have ka1 := ka.1
    go_simp
    refine hK.out _ _ (fun _ => ka) (fun hHeld => ?_)
    clear hK K
    have hHeld := hHeld (by decide)
    try simp only [Act.put, List.getElem_toArray, List.getElem_cons_zero, List.getElem_cons_succ, List.setIfInBounds_toArray, List.set_cons_zero, List.set_cons_succ]
    refine held_ready (rs := [20]) (by kernel_rfl) (by simp) ?_
    refine AllHeld.cons rfl (fun K hK => ?_) AllHeld.nil
    have ka1 := ka.1
    go_simp
    refine hK.out _ _ (fun _ => ka) (fun hHeld => ?_)
    clear hK K
    have hHeld := hHeld (by decide)
    try simp only [Act.put, List.getElem_toArray, List.getElem_cons_zero, List.getElem_cons_succ, List.setIfInBounds_toArray, List.set_cons_zero, List.set_cons_succ]
    refine held_ready (rs := [21]) (by kernel_rfl) (by simp) ?_
    refine AllHeld.cons rfl (fun K hK => ?_) AllHeld.nil
    have ka1 := ka.1
    go_simp
    refine hK.out _ _ (fun h => absurd rfl h) (fun _ => ?_)
    clear hK K
    try simp only [Act.put, List.getElem_toArray, List.getElem_cons_zero, List.getElem_cons_succ, List.setIfInBounds_toArray, List.set_cons_zero, List.set_cons_succ]
    refine held_done (by kernel_rfl) ?_ _
    clear hHeld
    try simp only [Act.put, List.getElem_toArray, List.getElem_cons_zero, List.getElem_cons_succ, List.setIfInBounds_toArray, List.set_cons_zero, List.set_cons_succ]
    rw [Nat.zero_add] at ho18
    exact HKH.out _ _ _ _ _ _ _ _ _ _ _ _ _ _ _ _ _ _ _ _ _ _ ⟨_, wc, rfl, HBC.out, END.out _ _ _ _ ho18⟩

set_option linter.unusedSimpArgs false in
set_option maxHeartbeats 8000000 in
set_option maxRecDepth 100000 in
/-- put: a branch more, in its place. -/
theorem rput_any (B : Nat) (w : World) (r : Nat) (v : Value) (Z : BM) (p : List UInt8 × (Value × List En)) (hn : Z.length ≤ 64) (ho : p.2.1.oneCell' = true) (hz : ∀ q ∈ Z, q.2.1.oneCell' = true) (h : RBk B w r v Z) :
    Calls Tryz.prog 105 #[ptr r, .agg (brC p).toArray] w fun e w' => e = .returned (.tuple #[]) ∧ ∃ v' wc, w' = wc.setCell ⟨r, 0, none⟩ v' ∧ Below w.heap.size w wc ∧ wc.ownsRow w.heap.size BrT 2 v' (Z.length + 1) (bcells (Z.take (putAt Z p.1) ++ p :: Z.drop (putAt Z p.1))) := by
  obtain ⟨w1, hW⟩ : ∃ w1, w1 = w.alloc (.cells (brC p).toArray BrT) := ⟨_, rfl⟩
  have hb0 : Below w.heap.size w w1 := by rw [hW]; exact (Below.refl _ _).alloc (Nat.le_refl _) _
  have hq0 : w1.heap[w.heap.size]? = some (.cells (brC p).toArray BrT) := by rw [hW]; exact (MapKept.heap_alloc w _).1
  have h1 := h.below hb0
  obtain ⟨va, vc, rfl⟩ := rowS_slice h.row
  obtain ⟨ia, hia⟩ : ∃ ia, ia = putAt Z p.1 := ⟨_, rfl⟩
  have hil : ia ≤ Z.length := by rw [hia, putAt]; exact (List.takeWhile_prefix _).length_le
  have HLT : Hid (∀ j q, Z[j]? = some q → j < ia → Op.bytesLess q.1 p.1 = true) := Lib.hid (fun j q hq hj => by
    rw [lt_less]
    rw [hia, putAt] at hj
    exact takeWhile_in (fun x : List UInt8 × (Value × List En) => lt x.1 p.1) Z j q hq hj)
  have HST : Hid (∀ q, Z[ia]? = some q → Op.bytesLess q.1 p.1 = false) := Lib.hid (fun q hq => by
    rw [lt_less]
    rw [hia, putAt] at hq
    exact takeWhile_stop (fun x : List UInt8 × (Value × List En) => lt x.1 p.1) Z q hq)
  have KC : Hid (∀ w' : World, Below w1.heap.size w1 w' → w'.cell? ⟨r, 0, none⟩ = some (.slice va Z.length vc) ∧ w'.cell? ⟨w.heap.size, 0, none⟩ = some (.string ⟨p.1.toArray⟩)) := Lib.hid (fun w' hb => ⟨cell_of_heap (h1.below hb).book, cell_of_heap ((hb.block _ (lt_of_heap hq0)).trans hq0)⟩)
  have KB : Hid (∀ w' : World, Below w1.heap.size w1 w' → ∀ (j : Nat) q, Z[j]? = some q → ∃ g, va = some ⟨g, 0, none⟩ ∧ w'.cell? ⟨g, j * 2, none⟩ = some (.string ⟨q.1.toArray⟩)) := Lib.hid (fun w' hb j q hq => by
    obtain ⟨g, cap, hv, _, hc⟩ := (h1.below hb).cells (by have := (List.getElem?_eq_some_iff.1 hq).1; omega)
    injection hv with e1 _ e3
    exact ⟨g, e1, (hc j q hq).1⟩)
  have FIN : Hid (∀ wz : World, Below w1.heap.size w1 wz → RBk B wz r (.slice va Z.length vc) Z ∧ wz.heap[w.heap.size]? = some (.cells (brC p).toArray BrT)) := Lib.hid (fun wz hb => ⟨h1.below hb, (hb.block _ (lt_of_heap hq0)).trans hq0⟩)
  have END : Hid (∀ wz w' : World, Below w1.heap.size w1 wz → (∃ v' wc, w' = wc.setCell ⟨r, 0, none⟩ v' ∧ Below wz.heap.size wz wc ∧ wc.ownsRow wz.heap.size BrT 2 v' (Z.length + 1) (bcells (Z.take ia ++ p :: Z.drop ia))) → ∃ v' wc, w' = wc.setCell ⟨r, 0, none⟩ v' ∧ Below w.heap.size w wc ∧ wc.ownsRow w.heap.size BrT 2 v' (Z.length + 1) (bcells (Z.take ia ++ p :: Z.drop ia))) := Lib.hid (fun wz w' hb ⟨v', wc, h1, h2, h3⟩ => ⟨v', wc, h1, (hb0.trans (hb.mono hb0.size)).trans (h2.mono (Nat.le_trans hb0.size hb.size)), row_mono h3 (Nat.le_trans hb0.size hb.size)⟩)
  rw [← hia]
  have HW := Lib.hid hW
  clear hb0 hq0 h1 h hia hW
  obtain ⟨XC, hXC⟩ : ∃ XC, XC = brC p := ⟨_, rfl⟩
  rw [← hXC] at HW ⊢
  have HXC := Lib.hid hXC
  clear hXC
  unfold ptr
  go_enter Tryz.func105, Tryz.ntmps105
  go_wp2
  rw [← HW.out]
  go_loopw [4] (fun v4 wr => ∃ i : Nat, i ≤ ia ∧ v4 = .int .i64 (i : Int) ∧ Hid (Below w1.heap.size w1 wr)) (fun v4 _ => Z.length - (RowKit.intOf v4).toNat)
  case atStart => exact ⟨0, Nat.zero_le _, rfl, Lib.hid (Below.refl _ _)⟩
  case round =>
    obtain ⟨i, hi, rfl, HB⟩ := hrel
    obtain ⟨k0, k1⟩ := KC.out wr HB.out
    by_cases hl : (i : Int) < (Z.length : Int)
    · have hi2 : i < Z.length := by omega
      have h0 : (0 : Int) ≤ (i : Int) := by omega
      obtain ⟨q, hq⟩ : ∃ q, Z[i]? = some q := ⟨_, List.getElem?_eq_getElem hi2⟩
      obtain ⟨g, rfl, c0⟩ := KB.out wr HB.out i q hq
      have HQ := Lib.hid hq
      clear hq
      by_cases hs : i < ia
      · have hlp : Op.bytesLess q.1 p.1 = true := HLT.out i q HQ.out hs
        go_wp2_with fail
        go_quiet (fail)
        go_wp2
        go_roundw
        case rel => exact ⟨i + 1, by omega, by go_num, Lib.hid (HB.out.trans ⟨rfl, rfl, rfl, Nat.le_refl _, fun _ _ => rfl⟩)⟩
        case measure => simp [RowKit.intOf]; omega
      · obtain rfl : i = ia := by omega
        have hlp : Op.bytesLess q.1 p.1 = false := HST.out q HQ.out
        go_wp2_with fail
        go_quiet (fail)
        obtain ⟨wz, hwz⟩ : ∃ wz, wz = wr.drewN nq := ⟨_, rfl⟩
        have HBZ : Hid (Below w1.heap.size w1 wz) := Lib.hid (by rw [hwz]; exact HB.out.trans ⟨rfl, rfl, rfl, Nat.le_refl _, fun _ _ => rfl⟩)
        rw [← hwz]
        clear hwz
        go_upto_region 4 with (fail)
        refine rput_p4 _ _ _ _ _ _ _ _ _ _ _ _ _ _ _ _ _ _ _ _ _ _ _ _ _ _ _ _ _ _ _ _ _ _ _ _ _ _ _ _ _ _ _ _ _ (by intro c a a_ w hd h; have h2 : a.defers = [] ∧ _ := h; exact And.intro (hd.symm.trans h2.1) h2.2) hn hil (Lib.hid (FIN.out wz HBZ.out).1) (Lib.hid (FIN.out wz HBZ.out).2) ho hz ?_
        intro t27 t28 t29 t30 t31 t32 t33 t34 t35 t36 t37 t38 t39 t40 t41 t42 t43 t44 t45 t46 t47 w5 h5
        have h6 := END.out wz w5 HBZ.out h5
        clear h5
        go_wp2
        exact bodyPost_end (results_none rfl _ _ _) rfl ⟨rfl, h6⟩
    · obtain rfl : i = ia := by omega
      have hd : decide ((i : Int) < (Z.length : Int)) = false := by rw [decide_eq_false_iff_not]; omega
      have hge : Z.length ≤ i := by omega
      clear hl
      go_upto_region 2 with (fail)
      refine wp_region_held_drew (S := (fun w' : World => w'.cell? ⟨r, 0, none⟩ = some (.slice va Z.length vc))) (by kernel_rfl) k0 (fun hHeld => ?_)
      refine wpAnyH_take (i := 0) (v := ?_) rfl (by kernel_rfl) (by kernel_rfl) (by kernel_rfl) (fun _ _ _ h => h) (Or.inl ⟨by rfl, ?q20⟩) hHeld ?_
      case q20 =>
        intro wS hSw
        have kz := hSw
        go_simp
        try with_reducible rfl
      try simp only [Act.put, List.getElem_toArray, List.getElem_cons_zero, List.getElem_cons_succ, List.setIfInBounds_toArray, List.set_cons_zero, List.set_cons_succ]
      refine wpAnyH_take (i := 1) (v := ?_) rfl (by kernel_rfl) (by kernel_rfl) (by kernel_rfl) (fun _ _ _ h => h) (Or.inl ⟨by rfl, ?q21⟩) hHeld ?_
      case q21 =>
        intro wS hSw
        have kz := hSw
        go_simp
        try with_reducible rfl
      try simp only [Act.put, List.getElem_toArray, List.getElem_cons_zero, List.getElem_cons_succ, List.setIfInBounds_toArray, List.set_cons_zero, List.set_cons_succ]
      refine wpAnyH_take (i := 2) (v := ?_) rfl (by kernel_rfl) (by kernel_rfl) (by kernel_rfl) (fun _ _ _ h => h) (Or.inl ⟨by rfl, ?q22⟩) hHeld ?_
      case q22 =>
        intro wS hSw
        have kz := hSw
        go_simp
        try with_reducible rfl
      try simp only [Act.put, List.getElem_toArray, List.getElem_cons_zero, List.getElem_cons_succ, List.setIfInBounds_toArray, List.set_cons_zero, List.set_cons_succ]
      refine wpAnyH_take (i := 3) (v := ?_) rfl (by kernel_rfl) (by kernel_rfl) (by kernel_rfl) (fun _ _ _ h => h) (Or.inl ⟨by rfl, ?q23⟩) hHeld ?_
      case q23 =>
        intro wS hSw
        have kz := hSw
        go_simp
        try with_reducible rfl
      try simp only [Act.put, List.getElem_toArray, List.getElem_cons_zero, List.getElem_cons_succ, List.setIfInBounds_toArray, List.set_cons_zero, List.set_cons_succ]
      refine wpAnyH_take (i := 4) (v := ?_) rfl (by kernel_rfl) (by kernel_rfl) (by kernel_rfl) (fun _ _ _ h => h) (Or.inl ⟨by rfl, ?q24⟩) hHeld ?_
      case q24 =>
        intro wS hSw
        have kz := hSw
        go_simp
        try with_reducible rfl
      try simp only [Act.put, List.getElem_toArray, List.getElem_cons_zero, List.getElem_cons_succ, List.setIfInBounds_toArray, List.set_cons_zero, List.set_cons_succ]
      refine wpAnyH_take (i := 5) (v := ?_) rfl (by kernel_rfl) (by kernel_rfl) (by kernel_rfl) (fun _ _ _ h => h) (Or.inl ⟨by rfl, ?q25⟩) hHeld ?_
      case q25 =>
        intro wS hSw
        have kz := hSw
        go_simp
        try with_reducible rfl
      try simp only [Act.put, List.getElem_toArray, List.getElem_cons_zero, List.getElem_cons_succ, List.setIfInBounds_toArray, List.set_cons_zero, List.set_cons_succ]
      refine wpAnyH_take (i := 6) (v := .bool false) rfl (by kernel_rfl) (by kernel_rfl) (by kernel_rfl) (fun _ _ _ h => h) (Or.inl ⟨by rfl, ?q26⟩) hHeld ?_
      case q26 =>
        intro wS hSw
        have kz := hSw
        go_simp
        try simp
        try rfl
        try exact hge
      try simp only [Act.put, List.getElem_toArray, List.getElem_cons_zero, List.getElem_cons_succ, List.setIfInBounds_toArray, List.set_cons_zero, List.set_cons_succ]
      refine wpAnyH_take (i := 7) (v := ?_) rfl (by kernel_rfl) (by kernel_rfl) (by kernel_rfl) (fun _ _ _ h => h) (Or.inl ⟨by rfl, ?q27⟩) hHeld ?_
      case q27 =>
        intro wS hSw
        have kz := hSw
        go_simp
        try with_reducible rfl
      try simp only [Act.put, List.getElem_toArray, List.getElem_cons_zero, List.getElem_cons_succ, List.setIfInBounds_toArray, List.set_cons_zero, List.set_cons_succ]
      refine wpAnyH_take (i := 8) (v := undef) rfl (by kernel_rfl) (by kernel_rfl) (by kernel_rfl) (fun _ _ _ h => h) (Or.inr ⟨by rfl, rfl⟩) hHeld ?_
      try simp only [Act.put, List.getElem_toArray, List.getElem_cons_zero, List.getElem_cons_succ, List.setIfInBounds_toArray, List.set_cons_zero, List.set_cons_succ]
      refine wpAnyH_take (i := 9) (v := undef) rfl (by kernel_rfl) (by kernel_rfl) (by kernel_rfl) (fun _ _ _ h => h) (Or.inr ⟨by rfl, rfl⟩) hHeld ?_
      try simp only [Act.put, List.getElem_toArray, List.getElem_cons_zero, List.getElem_cons_succ, List.setIfInBounds_toArray, List.set_cons_zero, List.set_cons_succ]
      refine wpAnyH_take (i := 10) (v := undef) rfl (by kernel_rfl) (by kernel_rfl) (by kernel_rfl) (fun _ _ _ h => h) (Or.inr ⟨by rfl, rfl⟩) hHeld ?_
      try simp only [Act.put, List.getElem_toArray, List.getElem_cons_zero, List.getElem_cons_succ, List.setIfInBounds_toArray, List.set_cons_zero, List.set_cons_succ]
      refine wpAnyH_take (i := 11) (v := undef) rfl (by kernel_rfl) (by kernel_rfl) (by kernel_rfl) (fun _ _ _ h => h) (Or.inr ⟨by rfl, rfl⟩) hHeld ?_
      try simp only [Act.put, List.getElem_toArray, List.getElem_cons_zero, List.getElem_cons_succ, List.setIfInBounds_toArray, List.set_cons_zero, List.set_cons_succ]
      refine wpAnyH_take (i := 12) (v := undef) rfl (by kernel_rfl) (by kernel_rfl) (by kernel_rfl) (fun _ _ _ h => h) (Or.inr ⟨by rfl, rfl⟩) hHeld ?_
      try simp only [Act.put, List.getElem_toArray, List.getElem_cons_zero, List.getElem_cons_succ, List.setIfInBounds_toArray, List.set_cons_zero, List.set_cons_succ]
      refine wpAnyH_take (i := 13) (v := undef) rfl (by kernel_rfl) (by kernel_rfl) (by kernel_rfl) (fun _ _ _ h => h) (Or.inr ⟨by rfl, rfl⟩) hHeld ?_
      try simp only [Act.put, List.getElem_toArray, List.getElem_cons_zero, List.getElem_cons_succ, List.setIfInBounds_toArray, List.set_cons_zero, List.set_cons_succ]
      refine wpAnyH_take (i := 14) (v := undef) rfl (by kernel_rfl) (by kernel_rfl) (by kernel_rfl) (fun _ _ _ h => h) (Or.inr ⟨by rfl, rfl⟩) hHeld ?_
      try simp only [Act.put, List.getElem_toArray, List.getElem_cons_zero, List.getElem_cons_succ, List.setIfInBounds_toArray, List.set_cons_zero, List.set_cons_succ]
      refine wpAnyH_take (i := 15) (v := undef) rfl (by kernel_rfl) (by kernel_rfl) (by kernel_rfl) (fun _ _ _ h => h) (Or.inr ⟨by rfl, rfl⟩) hHeld ?_
      try simp only [Act.put, List.getElem_toArray, List.getElem_cons_zero, List.getElem_cons_succ, List.setIfInBounds_toArray, List.set_cons_zero, List.set_cons_succ]
      refine wpAnyH_take (i := 16) (v := undef) rfl (by kernel_rfl) (by kernel_rfl) (by kernel_rfl) (fun _ _ _ h => h) (Or.inr ⟨by rfl, rfl⟩) hHeld ?_
      try simp only [Act.put, List.getElem_toArray, List.getElem_cons_zero, List.getElem_cons_succ, List.setIfInBounds_toArray, List.set_cons_zero, List.set_cons_succ]
      refine wpAnyH_take (i := 17) (v := undef) rfl (by kernel_rfl) (by kernel_rfl) (by kernel_rfl) (fun _ _ _ h => h) (Or.inr ⟨by rfl, rfl⟩) hHeld ?_
      try simp only [Act.put, List.getElem_toArray, List.getElem_cons_zero, List.getElem_cons_succ, List.setIfInBounds_toArray, List.set_cons_zero, List.set_cons_succ]
      refine wpAnyH_take (i := 18) (v := undef) rfl (by kernel_rfl) (by kernel_rfl) (by kernel_rfl) (fun _ _ _ h => h) (Or.inr ⟨by rfl, rfl⟩) hHeld ?_
      try simp only [Act.put, List.getElem_toArray, List.getElem_cons_zero, List.getElem_cons_succ, List.setIfInBounds_toArray, List.set_cons_zero, List.set_cons_succ]
      refine wpAnyH_take (i := 19) (v := ?_) rfl (by kernel_rfl) (by kernel_rfl) (by kernel_rfl) (fun _ _ _ h => h) (Or.inl ⟨by rfl, ?q219⟩) hHeld ?_
      case q219 =>
        intro wS hSw
        have kz := hSw
        go_simp
        try with_reducible rfl
      try simp only [Act.put, List.getElem_toArray, List.getElem_cons_zero, List.getElem_cons_succ, List.setIfInBounds_toArray, List.set_cons_zero, List.set_cons_succ]
      refine wpAnyH_done (by kernel_rfl) ?_ _
      clear hHeld
      try simp only [Act.put, List.getElem_toArray, List.getElem_cons_zero, List.getElem_cons_succ, List.setIfInBounds_toArray, List.set_cons_zero, List.set_cons_succ]
      obtain ⟨wz, hwz⟩ : ∃ wz, wz = wr.drew := ⟨_, rfl⟩
      have HBZ : Hid (Below w1.heap.size w1 wz) := Lib.hid (by rw [hwz]; exact HB.out.drew)
      rw [← hwz]
      clear hwz
      go_upto_region 4 with (fail)
      refine rput_p4 _ _ _ _ _ _ _ _ _ _ _ _ _ _ _ _ _ _ _ _ _ _ _ _ _ _ _ _ _ _ _ _ _ _ _ _ _ _ _ _ _ _ _ _ _ (by intro c a a_ w hd h; have h2 : a.defers = [] ∧ _ := h; exact And.intro (hd.symm.trans h2.1) h2.2) hn hil (Lib.hid (FIN.out wz HBZ.out).1) (Lib.hid (FIN.out wz HBZ.out).2) ho hz ?_
      intro t27 t28 t29 t30 t31 t32 t33 t34 t35 t36 t37 t38 t39 t40 t41 t42 t43 t44 t45 t46 t47 w5 h5
      have h6 := END.out wz w5 HBZ.out h5
      clear h5
      go_wp2
      exact bodyPost_end (results_none rfl _ _ _) rfl ⟨rfl, h6⟩
end Go.Proofs.YtkeegnhjemhblaaGreatDoor.Rb
