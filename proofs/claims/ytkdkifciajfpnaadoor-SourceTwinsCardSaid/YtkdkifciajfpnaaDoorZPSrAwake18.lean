import Derived.Test.YtkdkifciajfpnaaDoorZPSrHapp
import Derived.Test.YtkdkifciajfpnaaDoorZPSrHonPlain
set_option linter.unusedSimpArgs false
set_option linter.unusedVariables false
/-
  munimentlaw18's awake answers true.
-/
namespace Go.Proofs.YtkdkifciajfpnaaDoor.Sr
open Go.RowKit Go.Maps Go.WideMaps Go.Proofs.YtkdkifciajfpnaaDoor.Rf Go.Proofs.YtkdkifciajfpnaaDoor.Nm Go.Proofs.YtkdkifciajfpnaaDoor.St

def pA : List UInt8 := [47, 97]
def pAF : List UInt8 := [47, 97, 47, 102]
def pC : List UInt8 := [47, 99]
def pCF : List UInt8 := [47, 99, 47, 102]
def dX : List UInt8 := [120, 121, 122]
def VW1 : VS := vdo (.add [[97]] 2) V0
def VW2 : VS := vdo (.add [[97], [102]] 1) VW1
def VW3 : VS := vnext (.move [[97]] [[99]]) VW2
theorem add_step {B : Nat} {w w1 w' : World} {r : Nat} {T : Tr} {p d : List UInt8} {l : PN} {k : Nat} {A : XA} {e : Ending} {V : VS} (hT : TreeAt B w r T) (hb : Below w.heap.size w w1) (hv : viewT T = V) (hp : splitE p = 0) (hl : splitL p = l) (hA : chkA A = true) (hk : A.node = k) (hd : d.length ≤ 1048576)
    (hE : verr (.add l k) V = 0) (h : AddPost B w1 r T p d A e w') : e = .returned (.int .i64 0) ∧ ∃ T', CallT B w r T w' T' ∧ viewT T' = vdo (.add l k) V ∧ ∃ n ∈ T'.L, n.ino = T.most + 1 ∧ n.data = d := by
  obtain ⟨he, T', hc, hno, hyes⟩ := h.call hT hb (.inl hd) (splitL_16 p)
  have hE2 : addE p d A T = 0 := by rw [verr_add hp hA hd k, hl, hv, hE]
  rw [hE2] at he hno hyes
  obtain ⟨n, u, hu, hun, hn, hi, ha, hnd, ht, hT'⟩ := hyes rfl
  have htr := hc.tree
  refine ⟨he, T', hc, ?_, ?_⟩
  · rw [hT'] at htr ⊢
    rw [view_add hu (by rw [hun, hl]) (by rw [hn, hl]) hi (by rw [ha, hk]) ht htr, hv]
  · rw [hT']
    show ∃ x ∈ tickT _ _ (insT n T.L), _
    rw [tickT_map]
    refine ⟨_, List.mem_map.2 ⟨n, mem_insT.2 (.inl rfl), rfl⟩, ?_⟩
    rw [if_pos (by simp)]
    exact ⟨hi, hnd⟩
set_option linter.unusedSimpArgs false in
set_option maxHeartbeats 8000000 in
set_option maxRecDepth 100000 in
theorem awake18_any (w : World) : Calls Tryd.prog 4 #[] w fun e w' => e = .returned (.bool true) ∧ Below w.heap.size w w' := by
  have TN := Lib.hid (tree_new w)
  go_enter Tryd.func4, Tryd.ntmps4
  go_wp2_with fail
  refine TN.out.mono ?_
  rintro ex w1 ⟨r, p, m, rfl, ht1, hb1⟩
  have HT1 := Lib.hid ht1; have HB1 := Lib.hid hb1
  have FO := folder_any w.heap.size w1 r (newT p m) pA (modeA 448) (.slice none 0 0) (by decide) (mode_xs _ _) (by simp [modeA, xob]) (by show 1 < _; decide) ht1
  have FO := Lib.hid FO
  clear ht1 hb1 TN
  unfold ptr at *
  go_wp2_with fail
  refine FO.out.mono ?_
  rintro ex w2 ⟨W, hbW, _, hpost⟩
  obtain ⟨rfl, T1, hc1, hv1, _⟩ := add_step (V := V0) (l := [[97]]) (k := 2) HT1.out hbW rfl (by decide +kernel) (by decide +kernel) (by decide +kernel) rfl (by decide) (by decide +kernel) hpost
  have G1 := Lib.hid (ChT.good HT1.out hc1.ch (good_new p m))
  have HT2 := Lib.hid hc1.tree; have HV1 := Lib.hid hv1
  have HB2 : Hid (Below w.heap.size w w2) := Lib.hid (HB1.out.trans (hc1.turn.below (fun x hx => HT1.out.base x (by rw [List.mem_cons] at hx ⊢; exact hx.imp id (fun h => List.mem_append_left _ h))) HB1.out.size))
  have FI := file_any w.heap.size w2 r T1 pAF dX zeroA (.slice none 0 0) (by decide) (by decide) ⟨none, 0, rfl, Nat.zero_le _, by simp [zeroA], by simp [zeroA]⟩ (by simp [zeroA, xob]) (by have := G1.out.most; omega) hc1.tree
  have FI := Lib.hid FI
  clear hpost hc1 hv1 hbW FO
  unfold ptr at *
  go_wp2_with fail
  refine FI.out.mono ?_
  rintro ex w3 ⟨W, hbW, _, hpost⟩
  obtain ⟨rfl, T2, hc2, hv2, n2, hn2, hi2, hd2⟩ := add_step (V := VW1) (l := [[97], [102]]) (k := 1) HT2.out hbW HV1.out (by decide +kernel) (by decide +kernel) (by decide +kernel) rfl (by decide) (by decide +kernel) hpost
  have G2 := Lib.hid (ChT.good HT2.out hc2.ch G1.out)
  have HT3 := Lib.hid hc2.tree; have HV2 := Lib.hid hv2
  have hm1 : T1.most = 2 := congrArg VS.most HV1.out
  rw [hm1] at hi2
  have HN2 : Hid (∃ n ∈ T2.L, n.ino = 3 ∧ n.data = dX) := Lib.hid ⟨n2, hn2, hi2, hd2⟩
  have HB3 : Hid (Below w.heap.size w w3) := Lib.hid (HB2.out.trans (hc2.turn.below (fun x hx => HT2.out.base x (by rw [List.mem_cons] at hx ⊢; exact hx.imp id (fun h => List.mem_append_left _ h))) HB2.out.size))
  have MV := move_any w.heap.size w3 r T2 pA pC (by decide) (by decide) G2.out.deep (by have := G2.out.len; omega) hc2.tree
  have hme : moveE pA pC T2 = 0 := by rw [verr_move (by decide +kernel) (by decide +kernel), hv2]; decide +kernel
  rw [hme] at MV
  have MV := Lib.hid MV
  clear hpost hc2 hv2 hbW FI hn2 hi2 hd2 hm1 hme
  unfold ptr at *
  go_wp2_with fail
  refine MV.out.mono ?_
  rintro ex w4 ⟨rfl, hc3⟩
  have hv3 : viewT (moveTr pA pC T2) = VW3 := by
    have := view_move (p := pA) (q := pC) (by decide +kernel) (by decide +kernel) HT3.out hc3.tree
    rw [this, HV2.out, show splitL pA = [[97]] by decide +kernel, show splitL pC = [[99]] by decide +kernel]
    rfl
  obtain ⟨T3, hT3⟩ : ∃ T3, T3 = moveTr pA pC T2 := ⟨_, rfl⟩
  rw [← hT3] at hc3 hv3
  have HB4 : Hid (Below w.heap.size w w4) := Lib.hid (HB3.out.trans (hc3.turn.below (fun x hx => HT3.out.base x (by rw [List.mem_cons] at hx ⊢; exact hx.imp id (fun h => List.mem_append_left _ h))) HB3.out.size))
  have hst : findE pCF T3.L = 0 ∧ (statN pCF T3.L).stat.toArray = #[.int .u8 1, .int .i64 3, .int .u64 3, .int .i64 2] := by
    have h1 : vget [[99], [102]] (T3.L.map keyV) = some ([[99], [102]], 1, 3, 2) := by
      have : (viewT T3).L = VW3.L := congrArg VS.L hv3
      show vget _ (viewT T3).L = _
      rw [this]; decide +kernel
    rw [vget_map] at h1
    obtain ⟨e, he, hk⟩ := Option.map_eq_some_iff.1 h1
    have k1 : e.at_.node = 1 := congrArg (fun x : VN => x.2.1) hk
    have k2 : e.ino = 3 := congrArg (fun x : VN => x.2.2.1) hk
    have k3 : e.tick = 2 := congrArg (fun x : VN => x.2.2.2) hk
    have hsp : splitE pCF = 0 := by decide +kernel
    have hsl : splitL pCF = [[99], [102]] := by decide +kernel
    have hf : findN pCF T3.L = some e := by rw [findN, if_pos hsp, hsl, he]
    have hc : T2.clock = 2 := congrArg VS.clock HV2.out
    have hd : e.data = dX := by
      obtain ⟨n, hn, hi, hd⟩ := HN2.out
      rcases ChT.was HT3.out hc3.ch e (getT_nm he).1 with ⟨x, hx, h1, h2, _⟩ | ⟨h1, _⟩
      · rw [h2, ← inos_inj G2.out.inos hn hx (by rw [hi, ← h1, k2]), hd]
      · rw [hc, k3] at h1; cases h1
    refine ⟨by rw [findE, if_pos hsp, hsl, he]; rfl, ?_⟩
    rw [statN, hf]
    show #[Value.int .u8 (e.at_.node : Int), .int .i64 (sizeT e T3.L), .int .u64 (e.ino : Int), .int .i64 e.tick] = _
    rw [sizeT, if_pos k1, k1, k2, k3, hd]; rfl
  have ST := stat_any w.heap.size w4 r T3 pCF (by decide) hc3.tree
  rw [hst.1, hst.2] at ST
  have ST := Lib.hid ST
  clear hc3 hv3 hst hT3 MV
  unfold ptr at *
  go_wp2_with fail
  refine ST.out.mono ?_
  rintro ex w5 ⟨rfl, hb5⟩
  have HB5 := Lib.hid (HB4.out.trans (hb5.mono HB4.out.size))
  clear hb5 ST
  go_wp2_with (first
    | (refine Sh.wpList_store_new rfl rfl 49 (.tmp 2) (.tmp 27) rfl #[.int .u8 1, .int .i64 3, .int .u64 3, .int .i64 2] rfl rfl infoSt rfl (oneSt _ _ _ _ rfl rfl rfl rfl) ?_
       intro w6 hq6 hb6 hs6
       have HB6 := Lib.hid (HB5.out.trans (hb6.mono HB5.out.size))
       have z0 : w6.cell? ⟨w5.heap.size, 0, none⟩ = some (.int .u8 1) := cell_of_heap hq6
       have z1 : w6.cell? ⟨w5.heap.size, 1, none⟩ = some (.int .i64 3) := cell_of_heap hq6
       have z2 : w6.cell? ⟨w5.heap.size, 2, none⟩ = some (.int .u64 3) := cell_of_heap hq6
       have z3 : w6.cell? ⟨w5.heap.size, 3, none⟩ = some (.int .i64 2) := cell_of_heap hq6
       clear hq6 hb6 hs6)
    | fail)
  go_ret
  exact ⟨rfl, HB6.out⟩
end Go.Proofs.YtkdkifciajfpnaaDoor.Sr
