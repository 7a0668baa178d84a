import Derived.Test.YtnkapojbijbbaaaGreatDoorZPSrOwn
import Derived.Test.YtnkapojbijbbaaaGreatDoorZPNmWhole
import Derived.Deep.CutBlock
set_option linter.unusedSimpArgs false
set_option linter.unusedVariables false
set_option maxHeartbeats 16000000
set_option maxRecDepth 100000
namespace Go.Proofs.YtnkapojbijbbaaaGreatDoor.Sr
open Go.RowKit Go.Maps Go.WideMaps Rf Go.Proofs.YtnkapojbijbbaaaGreatDoor.Nm St
def xsFine : List UInt8 → Xs → Bool
 | _, [] => true
 | last, x :: r => chk x.1 && (decide (x.2.length ≤ 4096) && (lt last x.1 && xsFine x.1 r))
def chkA (A : XA) : Bool :=
 decide (1 ≤ A.node ∧ A.node ≤ 3 ∧ A.mode ≤ 4095 ∧ 0 ≤ A.mtime ∧ A.mtime ≤ 1099511627776) && (decide (A.node = 3 ↔ A.target ≠ []) && (decide (A.target.length ≤ 1024) && (decide (0 ∉ A.target) && (decide (A.xs.length ≤ 16) && xsFine [] A.xs))))
def chkAE (A : XA) : Int := if chkA A then 0 else 1
theorem indexByte_not (l : List UInt8) (c : UInt8) : 0 ≤ Lib.indexByte l c ↔ c ∈ l := by
 induction l with
 | nil => simp [Lib.indexByte]
 | cons x r ih =>
   have hge := Lib.indexByte_ge r c
   rw [Lib.indexByte]
   by_cases h : x = c
   · simp [h]
   · have h2 : c ≠ x := Ne.symm h
     rw [if_neg (by simpa using h), List.mem_cons, or_iff_right h2, ← ih]
     by_cases hm : Lib.indexByte r c = -1
     · rw [if_pos (by rw [hm]; rfl), hm]
     · rw [if_neg (by simpa using hm)]; omega
theorem contains_any (s : ByteArray) (c : UInt8) (w : World) :
 Calls Tryz.prog 99 #[.string s, .string ⟨#[c]⟩] w fun e w' => e = .returned (.bool (decide (c ∈ s.data.toList))) ∧ w' = w := by
 have IX := Lib.hid (Tryz.strings_Index_one s c w)
 have HD : Hid (decide (0 ≤ Lib.indexByte s.data.toList c) = decide (c ∈ s.data.toList)) := Lib.hid (by rw [decide_eq_decide]; exact indexByte_not _ _)
 go_enter Tryz.func99, Tryz.ntmps99
 go_wp2_with fail
 refine IX.out.mono ?_
 rintro e w1 ⟨rfl, hw⟩
 obtain rfl : w = w1 := hw.symm
 go_wp2
 go_ret
 rw [← HD.out]
 exact ⟨rfl, rfl⟩
theorem less_any (a b : List UInt8) (w : World) :
 Calls Tryz.prog 100 #[.string ⟨a.toArray⟩, .string ⟨b.toArray⟩] w fun e w' => e = .returned (.bool (lt a b)) ∧ w' = w := by
 have h := lt_less a b
 go_enter Tryz.func100, Tryz.ntmps100
 go_wp2
 go_ret
 first | exact ⟨rfl, rfl⟩ | (rw [← h]; exact ⟨rfl, rfl⟩)
theorem infoXa1 (x : List UInt8 × List UInt8) : (Tryz.prog.info? 123).map (·.size) = some (#[Value.string ⟨x.1.toArray⟩, Value.string ⟨x.2.toArray⟩] : Array Value).size := by show _ = some 2; kernel_rfl
theorem chk_any (w : World) (A : XA) (v : Value) (h : XsAt w v A.xs) :
 Calls Tryz.prog 86 #[.agg (A.cells v).toArray] w fun e w' => e = .returned (.int .i64 (chkAE A)) ∧ Below w.heap.size w w' := by
 obtain ⟨W, hW⟩ : ∃ W, W = w.alloc (.cells (A.cells v).toArray AtT) := ⟨_, rfl⟩
 have hb0 : Below w.heap.size w W := by rw [hW]; exact (Below.refl _ _).alloc (Nat.le_refl _) _
 have hq0 : W.heap[w.heap.size]? = some (.cells (A.cells v).toArray AtT) := by rw [hW]; exact (MapKept.heap_alloc w _).1
 have hX := h.kept hb0.size (fun b hb => hb0.block b (h.lt b hb))
 have CO := Lib.hid (fun w => contains_any ⟨A.target.toArray⟩ 0 w)
 obtain ⟨va, vc, rfl, hxm, hxl, hxc⟩ := hX
 have HXL := Lib.hid hxl; have HXC := Lib.hid hxc; have HB0 := Lib.hid hb0; have HW := Lib.hid hW
 have C : Hid (∀ w' : World, Below W.heap.size W w' → w'.heap[w.heap.size]? = some (.cells (A.cells (.slice va A.xs.length vc)).toArray AtT)) := Lib.hid (fun w' hb => (hb.block _ (lt_of_heap hq0)).trans hq0)
 have k0 : (w.alloc (.cells (A.cells (.slice va A.xs.length vc)).toArray AtT)).cell? ⟨w.heap.size, 0, none⟩ = some (.int .u8 (A.node : Int)) := by rw [← hW]; exact cell_of_heap hq0
 have k1 : (w.alloc (.cells (A.cells (.slice va A.xs.length vc)).toArray AtT)).cell? ⟨w.heap.size, 1, none⟩ = some (.int .u32 (A.mode : Int)) := by rw [← hW]; exact cell_of_heap hq0
 have k4 : (w.alloc (.cells (A.cells (.slice va A.xs.length vc)).toArray AtT)).cell? ⟨w.heap.size, 4, none⟩ = some (.int .i64 A.mtime) := by rw [← hW]; exact cell_of_heap hq0
 have k5 : (w.alloc (.cells (A.cells (.slice va A.xs.length vc)).toArray AtT)).cell? ⟨w.heap.size, 5, none⟩ = some (.string ⟨A.target.toArray⟩) := by rw [← hW]; exact cell_of_heap hq0
 have k6 : (w.alloc (.cells (A.cells (.slice va A.xs.length vc)).toArray AtT)).cell? ⟨w.heap.size, 6, none⟩ = some (.slice va A.xs.length vc) := by rw [← hW]; exact cell_of_heap hq0
 have hts : (⟨A.target.toArray⟩ : ByteArray).size = A.target.length := rfl
 rw [show (⟨A.target.toArray⟩ : ByteArray).data.toList = A.target from by simp] at CO
 have HCA : Hid (chkAE A = if chkA A then 0 else 1) := Lib.hid rfl
 have HCB : Hid (chkA A = (decide (1 ≤ A.node ∧ A.node ≤ 3 ∧ A.mode ≤ 4095 ∧ 0 ≤ A.mtime ∧ A.mtime ≤ 1099511627776) && (decide (A.node = 3 ↔ A.target ≠ []) && (decide (A.target.length ≤ 1024) && (decide (0 ∉ A.target) && (decide (A.xs.length ≤ 16) && xsFine [] A.xs)))))) := Lib.hid rfl
 generalize chkAE A = R at *
 generalize chkA A = RB at *
 unfold maxLen at hxm
 clear hb0 hq0 hxl hxc h hW
 have NO : Hid (RB = false → R = 1) := Lib.hid (fun h => by rw [HCA.out, h]; rfl)
 by_cases a1 : 1 ≤ A.node
 case neg =>
  have hr : R = 1 := NO.out (by rw [HCB.out, decide_eq_false (by omega), Bool.false_and])
  have b1 : (A.node : Int) < 1 := by omega
  subst hr
  clear HCA HCB NO a1
  go_enter Tryz.func86, Tryz.ntmps86
  go_wp2
  go_ret
  exact ⟨rfl, (Below.refl _ _).alloc (Nat.le_refl _) _⟩
 have b1 : ¬ (A.node : Int) < 1 := by omega
 by_cases a2 : A.node ≤ 3
 case neg =>
  have hr : R = 1 := NO.out (by rw [HCB.out, decide_eq_false (by omega), Bool.false_and])
  have b2 : (3 : Int) < (A.node : Int) := by omega
  subst hr
  clear HCA HCB NO a1 a2
  go_enter Tryz.func86, Tryz.ntmps86
  go_wp2
  go_ret
  exact ⟨rfl, (Below.refl _ _).alloc (Nat.le_refl _) _⟩
 have b2 : ¬ (3 : Int) < (A.node : Int) := by omega
 by_cases a3 : A.mode ≤ 4095
 case neg =>
  have hr : R = 1 := NO.out (by rw [HCB.out, decide_eq_false (by omega), Bool.false_and])
  have b3 : (4095 : Int) < (A.mode : Int) := by omega
  subst hr
  clear HCA HCB NO a1 a2 a3
  go_enter Tryz.func86, Tryz.ntmps86
  go_wp2
  go_ret
  exact ⟨rfl, (Below.refl _ _).alloc (Nat.le_refl _) _⟩
 have b3 : ¬ (4095 : Int) < (A.mode : Int) := by omega
 by_cases a4 : 0 ≤ A.mtime
 case neg =>
  have hr : R = 1 := NO.out (by rw [HCB.out, decide_eq_false (by omega), Bool.false_and])
  have b4 : A.mtime < 0 := by omega
  subst hr
  clear HCA HCB NO a1 a2 a3 a4
  go_enter Tryz.func86, Tryz.ntmps86
  go_wp2
  go_ret
  exact ⟨rfl, (Below.refl _ _).alloc (Nat.le_refl _) _⟩
 have b4 : ¬ A.mtime < 0 := by omega
 by_cases a5 : A.mtime ≤ 1099511627776
 case neg =>
  have hr : R = 1 := NO.out (by rw [HCB.out, decide_eq_false (by omega), Bool.false_and])
  have b5 : 1099511627776 < A.mtime := by omega
  subst hr
  clear HCA HCB NO a1 a2 a3 a4 a5
  go_enter Tryz.func86, Tryz.ntmps86
  go_wp2
  go_ret
  exact ⟨rfl, (Below.refl _ _).alloc (Nat.le_refl _) _⟩
 have b5 : ¬ 1099511627776 < A.mtime := by omega
 have HCC : Hid (RB = (decide (A.node = 3 ↔ A.target ≠ []) && (decide (A.target.length ≤ 1024) && (decide (0 ∉ A.target) && (decide (A.xs.length ≤ 16) && xsFine [] A.xs))))) := Lib.hid (by rw [HCB.out, decide_eq_true ⟨a1, a2, a3, a4, a5⟩, Bool.true_and])
 clear HCB a1 a2 a3 a4 a5
 obtain ⟨n3, hn3⟩ : ∃ n3, n3 = ((A.node : Int) == 3) := ⟨_, rfl⟩
 obtain ⟨te, hte⟩ : ∃ te, te = (A.target == []) := ⟨_, rfl⟩
 have HL : Hid (decide (A.node = 3 ↔ A.target ≠ []) = (n3 != te)) := Lib.hid (by
  rw [hn3, hte, Bool.eq_iff_iff, decide_eq_true_iff]
  by_cases x : A.node = 3
  · have : ((A.node : Int) == 3) = true := by rw [beq_iff_eq]; omega
    rw [this]
    cases A.target <;> simp [x]
  · have : ((A.node : Int) == 3) = false := by rw [beq_eq_false_iff_ne]; omega
    rw [this]
    cases A.target <;> simp [x])
 have e3 := hn3.symm
 have e5 := hte.symm
 clear hn3 hte
 by_cases a6 : n3 = te
 · have hr : R = 1 := NO.out (by rw [HCC.out, HL.out, a6]; simp)
   subst a6 hr
   clear HCA HCC NO HL
   cases n3 with
   | true =>
     go_enter Tryz.func86, Tryz.ntmps86
     go_wp2
     go_ret
     exact ⟨rfl, (Below.refl _ _).alloc (Nat.le_refl _) _⟩
   | false =>
     go_enter Tryz.func86, Tryz.ntmps86
     go_wp2
     go_ret
     exact ⟨rfl, (Below.refl _ _).alloc (Nat.le_refl _) _⟩
 have HCD : Hid (RB = (decide (A.target.length ≤ 1024) && (decide (0 ∉ A.target) && (decide (A.xs.length ≤ 16) && xsFine [] A.xs)))) := Lib.hid (by rw [HCC.out, HL.out, bne_iff_ne.2 a6, Bool.true_and])
 obtain ⟨rfl⟩ : te = !n3 := by cases te <;> cases n3 <;> simp at a6 ⊢
 clear HCC HL a6
 by_cases a7 : A.target.length ≤ 1024
 case neg =>
  have hr : R = 1 := NO.out (by rw [HCD.out, decide_eq_false a7, Bool.false_and])
  have b7 : (1024 : Int) < (A.target.length : Int) := by omega
  subst hr
  clear HCA HCD NO a7
  go_enter Tryz.func86, Tryz.ntmps86
  go_wp2
  go_ret
  exact ⟨rfl, (Below.refl _ _).alloc (Nat.le_refl _) _⟩
 have b7 : ¬ (1024 : Int) < (A.target.length : Int) := by omega
 have HCE : Hid (RB = (decide (0 ∉ A.target) && (decide (A.xs.length ≤ 16) && xsFine [] A.xs))) := Lib.hid (by rw [HCD.out, decide_eq_true a7, Bool.true_and])
 clear HCD a7
 by_cases a8 : 0 ∈ A.target
 case pos =>
  have hr : R = 1 := NO.out (by rw [HCE.out, decide_eq_false (by simpa using a8), Bool.false_and])
  rw [decide_eq_true a8] at CO
  subst hr
  clear HCA HCE NO a8
  go_enter Tryz.func86, Tryz.ntmps86
  go_wp2_with fail
  refine (CO.out _).mono ?_
  rintro ex w1 ⟨rfl, hw1⟩
  obtain rfl := hw1
  go_wp2
  go_ret
  exact ⟨rfl, (Below.refl _ _).alloc (Nat.le_refl _) _⟩
 rw [decide_eq_false a8] at CO
 have HCF : Hid (RB = (decide (A.xs.length ≤ 16) && xsFine [] A.xs)) := Lib.hid (by rw [HCE.out, decide_eq_true (by simpa using a8), Bool.true_and])
 clear HCE a8
 by_cases a9 : A.xs.length ≤ 16
 case neg =>
  have hr : R = 1 := NO.out (by rw [HCF.out, decide_eq_false a9, Bool.false_and])
  have b9 : (16 : Int) < (A.xs.length : Int) := by omega
  subst hr
  clear HCA HCF NO a9
  go_enter Tryz.func86, Tryz.ntmps86
  go_wp2_with fail
  refine (CO.out _).mono ?_
  rintro ex w1 ⟨rfl, hw1⟩
  obtain rfl := hw1
  go_wp2
  go_ret
  exact ⟨rfl, (Below.refl _ _).alloc (Nat.le_refl _) _⟩
 have b9 : ¬ (16 : Int) < (A.xs.length : Int) := by omega
 have HCG : Hid (RB = xsFine [] A.xs) := Lib.hid (by rw [HCF.out, decide_eq_true a9, Bool.true_and])
 clear HCF
 have CN := Lib.hid (fun (s : List UInt8) w (h : s.length ≤ maxLen) => check_any ⟨s.toArray⟩ w h)
 have CL := Lib.hid less_any
 have HBW : Hid (Below w.heap.size w W) := HB0
 go_enter Tryz.func86, Tryz.ntmps86
 go_wp2_with fail
 refine (CO.out _).mono ?_
 rintro ex w1 ⟨rfl, hw1⟩
 obtain rfl := hw1
 go_wp2
 rw [← HW.out]
 go_loopw [4, 48] (fun v4 v48 wr => ∃ (i : Nat) (last : List UInt8), i ≤ A.xs.length ∧ v48 = .int .i64 (i : Int) ∧ v4 = .string ⟨last.toArray⟩ ∧ Hid (xsFine [] A.xs = xsFine last (A.xs.drop i)) ∧ Hid (Below W.heap.size W wr)) (fun _ v48 _ => A.xs.length - (RowKit.intOf v48).toNat)
 case atStart => exact ⟨0, [], by omega, rfl, rfl, Lib.hid rfl, Lib.hid (Below.refl _ _)⟩
 case round =>
  obtain ⟨i, last, hi, rfl, rfl, HF, HB⟩ := hrel
  have HBF : Hid (Below w.heap.size w wr) := Lib.hid (HBW.out.trans (HB.out.mono HBW.out.size))
  clear k0 k1 k4 k5 k6
  by_cases hil : (i : Int) < (A.xs.length : Int)
  · have hi2 : i < A.xs.length := by omega
    obtain ⟨x, hx⟩ : ∃ x, A.xs[i]? = some x := ⟨_, List.getElem?_eq_getElem hi2⟩
    obtain ⟨b, o, rfl, hb, hcl⟩ := HXC.out (fun h => by rw [h] at hi2; cases hi2)
    obtain ⟨cx1, cx2⟩ := hcl i x hx
    have cy1 := (World.cell?_of_block (a := ⟨b, o + i * 2, none⟩) (HB.out.block b hb)).trans cx1
    have cy2 := (World.cell?_of_block (a := ⟨b, o + i * 2 + 1, none⟩) (HB.out.block b hb)).trans cx2
    obtain ⟨l1, l2⟩ := HXL.out x (List.mem_of_getElem? hx)
    have HDR : Hid (xsFine [] A.xs = (chk x.1 && (decide (x.2.length ≤ 4096) && (lt last x.1 && xsFine x.1 (A.xs.drop (i + 1)))))) := Lib.hid (by
     rw [HF.out, List.drop_eq_getElem_cons hi2, xsFine]
     have : A.xs[i] = x := by rw [List.getElem?_eq_getElem hi2] at hx; exact Option.some.inj hx
     rw [this])
    have CN1 := CN.out x.1
    have CN1 := Lib.hid (fun w => CN1 w l1)
    have hvs : (⟨x.2.toArray⟩ : ByteArray).size = x.2.length := rfl
    have CLL := Lib.hid (CL.out last x.1)
    have HRG : Hid (wr.rangeAt b (o + i * 2) [.string ⟨x.1.toArray⟩, .string ⟨x.2.toArray⟩]) := Lib.hid (by
     intro j u hu
     match j, hu with
     | 0, hu => obtain rfl := Option.some.inj hu; exact cy1
     | 1, hu => obtain rfl := Option.some.inj hu; exact cy2)
    have HI2 := Lib.hid (infoXa1 x)
    clear hcl cx1 cx2 hx cy1 cy2
    go_wp2_with (first
     | (refine wpList_load_mid rfl _ _ rfl b (o + i * 2) rfl [.string ⟨x.1.toArray⟩, .string ⟨x.2.toArray⟩] _ HRG.out Tryz.underlying123 rfl HI2.out ?_))
    obtain ⟨w2, hw2⟩ : ∃ w2, w2 = wr.alloc (.cells #[.string ⟨x.1.toArray⟩, .string ⟨x.2.toArray⟩] 123) := ⟨_, rfl⟩
    have hq2 : w2.heap[wr.heap.size]? = some (.cells #[.string ⟨x.1.toArray⟩, .string ⟨x.2.toArray⟩] 123) := by rw [hw2]; exact (MapKept.heap_alloc wr _).1
    have hb2 : Below wr.heap.size wr w2 := by rw [hw2]; exact (Below.refl _ _).alloc (Nat.le_refl _) _
    rw [← hw2]
    have HBN : Hid (Below w.heap.size w w2) := Lib.hid (HBF.out.trans (hb2.mono HBF.out.size))
    have HBW2 : Hid (Below W.heap.size W w2) := Lib.hid (HB.out.trans (hb2.mono HB.out.size))
    have HQ2 := Lib.hid hq2
    have g0 : w2.cell? ⟨wr.heap.size, 0, none⟩ = some (.string ⟨x.1.toArray⟩) := cell_of_heap hq2
    have g1 : w2.cell? ⟨wr.heap.size, 1, none⟩ = some (.string ⟨x.2.toArray⟩) := cell_of_heap hq2
    clear hq2 hb2 hw2
    have CNW := CN1.out w2
    clear CN1 CN
    rw [chkN] at CNW
    cases hck : chk x.1 with
    | false =>
      rw [hck] at CNW
      have CNW : Hid (Calls Tryz.prog 92 #[.string ⟨x.1.toArray⟩] w2 fun e w' => e = .returned (.int .i64 10) ∧ Below w2.heap.size w2 w') := Lib.hid CNW
      have hr : R = 1 := NO.out (by rw [HCG.out, HDR.out, hck, Bool.false_and])
      subst hr
      clear hck HDR
      refine CNW.out.mono ?_
      rintro ex w3 ⟨rfl, hb3⟩
      have HB3 := Lib.hid (HBN.out.trans (hb3.mono HBN.out.size))
      clear hb3 CNW
      go_wp2
      go_ret
      exact ⟨rfl, HB3.out⟩
    | true =>
      rw [hck] at CNW
      have CNW : Hid (Calls Tryz.prog 92 #[.string ⟨x.1.toArray⟩] w2 fun e w' => e = .returned (.int .i64 0) ∧ Below w2.heap.size w2 w') := Lib.hid CNW
      have HDR2 : Hid (xsFine [] A.xs = (decide (x.2.length ≤ 4096) && (lt last x.1 && xsFine x.1 (A.xs.drop (i + 1))))) := Lib.hid (by rw [HDR.out, hck, Bool.true_and])
      clear hck HDR
      refine CNW.out.mono ?_
      rintro ex w3 ⟨rfl, hb3⟩
      have HB3 := Lib.hid (HBN.out.trans (hb3.mono HBN.out.size))
      have HBW3 := Lib.hid (HBW2.out.trans (hb3.mono HBW2.out.size))
      have q3 := (hb3.block wr.heap.size (lt_of_heap HQ2.out)).trans HQ2.out
      have g0' : w3.cell? ⟨wr.heap.size, 0, none⟩ = some (.string ⟨x.1.toArray⟩) := cell_of_heap q3
      have g1' : w3.cell? ⟨wr.heap.size, 1, none⟩ = some (.string ⟨x.2.toArray⟩) := cell_of_heap q3
      clear hb3 CNW g0 g1 q3
      by_cases hv : x.2.length ≤ 4096
      case neg =>
       have hvi : (4096 : Int) < (x.2.length : Int) := by omega
       have hr : R = 1 := NO.out (by rw [HCG.out, HDR2.out, decide_eq_false hv, Bool.false_and])
       subst hr
       clear hv HDR2
       go_wp2
       go_ret
       exact ⟨rfl, HB3.out⟩
      have hvi : ¬ (4096 : Int) < (x.2.length : Int) := by omega
      have CLW := CLL.out w3
      cases hlt : lt last x.1 with
      | false =>
        rw [hlt] at CLW
        have CLW := Lib.hid CLW
        have hr : R = 1 := NO.out (by rw [HCG.out, HDR2.out, hlt, Bool.false_and, Bool.and_false])
        subst hr
        clear hv HDR2 hlt CLL
        go_wp2_with fail
        refine CLW.out.mono ?_
        rintro ex w4 ⟨rfl, hw4⟩
        obtain rfl : w3 = w4 := hw4.symm
        go_wp2
        go_ret
        exact ⟨rfl, HB3.out⟩
      | true =>
        rw [hlt] at CLW
        have CLW := Lib.hid CLW
        have HDR3 : Hid (xsFine [] A.xs = xsFine x.1 (A.xs.drop (i + 1))) := Lib.hid (by rw [HDR2.out, hlt, decide_eq_true hv, Bool.true_and, Bool.true_and])
        clear hv HDR2 hlt CLL
        go_wp2_with fail
        refine CLW.out.mono ?_
        rintro ex w4 ⟨rfl, hw4⟩
        obtain rfl : w3 = w4 := hw4.symm
        go_wp2
        go_roundw
        case rel => exact ⟨i + 1, x.1, by omega, by go_num, rfl, HDR3, HBW3⟩
        case measure => simp [RowKit.intOf]; omega
  · obtain rfl : i = A.xs.length := by omega
    have hr : R = 0 := by
     rw [HCA.out, HCG.out, HF.out, List.drop_length]; rfl
    subst hr
    go_wp2
    go_ret
    exact ⟨rfl, HBF.out⟩
end Go.Proofs.YtnkapojbijbbaaaGreatDoor.Sr
