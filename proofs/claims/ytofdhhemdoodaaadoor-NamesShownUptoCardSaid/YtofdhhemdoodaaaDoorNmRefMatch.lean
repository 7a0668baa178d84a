/-
  The contract of the reference's Match: at every pattern of at most 2^44 bytes, at every name.
-/
import Derived.Test.YtofdhhemdoodaaaDoorNmLikePlain
import Derived.Test.YtofdhhemdoodaaaDoorNmRefCheck
import Derived.Test.YtofdhhemdoodaaaDoorNmLawAre
import Derived.Laws.MakeOwn
import Derived.Deep.RegionLaw
import Derived.BigRegion
import Derived.BigQuiet
namespace Go.Proofs.YtofdhhemdoodaaaDoor.Nm
open Go.RowKit

theorem infoBool : (Tryd.prog.info? 4).map (fun i => (i.zero, i.size, i.bytes)) = some (some (.bool false), 1, 1) := by kernel_rfl

/-- A new row of flags. -/
def flags (m : Nat) : Array Value := (List.replicate m (Value.bool false)).toArray
theorem madeFlags (m : Nat) : madeCells (Value.bool false).cells (m * 1) = flags m := by
  apply Array.ext'
  rw [flags, madeCells, Nat.mul_one]
  apply List.ext_getElem
  · simp
  · intro i h1 h2
    simp [Value.cells, Nat.mod_one]

theorem make_flags (m : Nat) (hm : m ≤ 1000000) (w : World) :
    (Instr.makeSlice 59 (.int .i64 (m : Int)) (.int .i64 (m : Int))).run Tryd.prog w = .ok (.slice (some ⟨w.heap.size, 0, none⟩) m m) (w.alloc (.cells (flags m) 4)) := by
  obtain ⟨i0, hi, hz0, hz1, hz2⟩ := info_parts infoBool
  have h := run_make (P := Tryd.prog) w 59 4 i0 (.bool false) Tryd.underlying59 hi hz0 .i64 .i64 (m : Int) (m : Int) (by omega) (by omega) (by rw [hz2]; omega) (by omega)
  rw [h, hz1, Int.toNat_natCast, madeFlags]
theorem flags_get {m j : Nat} (h : j < m) : (flags m)[j]? = some (.bool false) := by
  rw [flags]; simp [List.getElem?_replicate, h]
theorem flags_size (m : Nat) : (flags m).size = m := by simp [flags]

theorem len_of_ownsR {w : World} {base : Nat} {e : TypeId} {size : Nat} {v : Value} {n : Nat} {xs : List Value} (h : w.ownsRow base e size v n xs) : ∃ a c, v = .slice a n c := by
  obtain ⟨h1, ⟨rfl, h2⟩ | ⟨g, cap, cur, rfl, _⟩⟩ := h
  · subst h2; exact ⟨none, 0, rfl⟩
  · exact ⟨_, _, rfl⟩
theorem rows_put {f : Nat → Bool} {cur : Array Value} {k : Nat} {b : Bool} (h : ∀ j, j < k → cur[j]? = some (.bool (f j))) (hk : k < cur.size) (hb : f k = b) :
    ∀ j, j < k + 1 → (cur.setIfInBounds k (.bool b))[j]? = some (.bool (f j)) := by
  intro j hj
  rw [Array.getElem?_setIfInBounds]
  by_cases e : k = j
  · subst e; rw [if_pos rfl, if_pos hk, hb]
  · rw [if_neg e]; exact h j (by omega)
theorem rest_put {cur : Array Value} {k n : Nat} {v : Value} (h : ∀ j, k ≤ j → j ≤ n → cur[j]? = some (.bool false)) :
    ∀ j, k + 1 ≤ j → j ≤ n → (cur.setIfInBounds k v)[j]? = some (.bool false) := by
  intro j h1 h2
  rw [Array.getElem?_setIfInBounds, if_neg (by omega)]; exact h j (by omega) h2

set_option maxHeartbeats 8000000 in
set_option maxRecDepth 100000 in
theorem ref_match (p n : ByteArray) (w : World) (hT : Tabs w) (hp : p.size ≤ 17592186044416) (hn : n.size ≤ 17592186044416) :
    Calls Tryd.prog 25 #[.string p, .string n] w fun e w' => e = .returned (.tuple #[.bool (matchR p.data.toList n.data.toList).1, .int .i64 (matchR p.data.toList n.data.toList).2]) ∧ Below w.heap.size w w' := by
  have mixed : Tryd.prog.follows Departure.mixedOrders = true := by kernel_rfl
  have hr1 := ref_runes p w hT hp
  unfold RunesPost at hr1
  by_cases h : okB p.data.toList = true ∧ p.size ≤ 255
  · obtain ⟨hok, h255⟩ := h
    have h' : (okB p.data.toList && decide (p.data.toList.length ≤ 255)) = true := by rw [← Lib.size_eq]; simp [hok, h255]
    rw [matchR, if_pos h']
    rw [hok] at hr1
    simp only [if_true] at hr1
    have hck := fun w hT => ref_check n w hT
    cases hc : chk n.data.toList with
    | false =>
      have e1 : chkN n.data.toList = 10 := by rw [chkN, hc]; rfl
      rw [e1] at hck
      have HR1 := Lib.hid hr1; have HCK := Lib.hid hck
      clear hr1 hck e1 hok h' hc
      go_enter Tryd.func25, Tryd.ntmps25
      go_wp2_with fail
      refine HR1.out.mono ?_
      rintro e w1 ⟨v, rfl, ho, hb1⟩
      go_wp2_with fail
      refine (HCK.out w1 (hT.below hb1)).mono ?_
      rintro e w2 ⟨rfl, hb2⟩
      have HB := Lib.hid (hb1.trans (hb2.mono hb1.size))
      clear ho hb1 hb2
      go_wp2
      go_ret2
      exact ⟨rfl, HB.out⟩
    | true =>
      have e1 : chkN n.data.toList = 0 := by rw [chkN, hc]; rfl
      rw [if_pos rfl]
      rw [e1] at hck
      have hln : okB n.data.toList = true := by
        rw [chk, Bool.and_eq_true, lenFine] at hc
        have := hc.1
        simp only [Bool.and_eq_true] at this
        exact this.1.1.1.1.1
      have hr2 := fun w hT => ref_runes n w hT hn
      unfold RunesPost at hr2
      simp only [hln, if_true] at hr2
      have hl1 := chk_ne hc
      have hl2 : (runes n.data.toList).length ≤ 64 := by
        rw [chk, Bool.and_eq_true, lenFine] at hc
        have := hc.1
        simp only [Bool.and_eq_true, decide_eq_true_eq] at this
        rw [runes_length]; exact this.1.1.1.2
      have hPl : (runes p.data.toList).length ≤ 17592186044416 := by
        rw [runes_length]; have := count_le p.data.toList; rw [← Lib.size_eq] at this; omega
      generalize hP : runes p.data.toList = P at *
      generalize hL : runes n.data.toList = L at *
      have HR1 := Lib.hid hr1; have HCK := Lib.hid hck; have HR2 := Lib.hid hr2
      clear hr1 hck hr2 e1 hok h' hc hln hP hL
      go_enter Tryd.func25, Tryd.ntmps25
      go_wp2_with fail
      refine HR1.out.mono ?_
      rintro e w1 ⟨v, rfl, ho1, hb1⟩
      go_wp2_with fail
      refine (HCK.out w1 (hT.below hb1)).mono ?_
      rintro e w2 ⟨rfl, hb2⟩
      have hT2 := hT.below (hb1.trans (hb2.mono hb1.size))
      go_wp2_with fail
      refine (HR2.out w2 hT2).mono ?_
      rintro e w3 ⟨v2, rfl, ho2, hb3⟩
      have HBK := Lib.hid ((hb1.trans (hb2.mono hb1.size)).trans (hb3.mono (Nat.le_trans hb1.size hb2.size)))
      have ho13 := ownsRow_below ho1 (hb2.trans (hb3.mono hb2.size))
      obtain ⟨gl, capl, rfl, hgl, hcl⟩ := row_cells ho2 (by intro e; rw [e] at hl1; simp at hl1)
      have HCL := Lib.hid hcl
      have HO13 := Lib.hid ho13
      clear ho1 ho2 hb1 hb2 hb3 hcl ho13 HR1 HCK HR2
      have hmk : ∀ w, (Instr.makeSlice 59 (.int .i64 ((L.length : Int) + 1)) (.int .i64 ((L.length : Int) + 1))).run Tryd.prog w = .ok (.slice (some ⟨w.heap.size, 0, none⟩) (L.length + 1) (L.length + 1)) (w.alloc (.cells (flags (L.length + 1)) 4)) := by
        intro w
        have h := make_flags (L.length + 1) (by omega) w
        rw [show ((L.length + 1 : Nat) : Int) = (L.length : Int) + 1 by omega] at h
        exact h
      by_cases hP0 : P = []
      · obtain ⟨ap, cpp, rfl⟩ := len_of_ownsR HO13.out
        clear HO13
        have hP0' : P.length = 0 := by rw [hP0]; rfl
        clear hP0
        go_wp2
        go_loopw [10, 11] (fun v10 v11 wr => ∃ (i G : Nat) (cur : Array Value), i ≤ P.length ∧ v11 = .int .i64 i ∧ v10 = .slice (some ⟨G, 0, none⟩) (L.length + 1) (L.length + 1) ∧ wr.heap[G]? = some (.cells cur 4) ∧ w3.heap.size ≤ G ∧ Hid (∀ k, k ≤ L.length → cur[k]? = some (.bool (like (P.take i) (L.take k)))) ∧ Below w3.heap.size w3 wr) (fun _ v11 _ => P.length - (intOf v11).toNat)
        case atStart =>
          refine ⟨0, w3.heap.size, (flags (L.length + 1)).setIfInBounds 0 (.bool true), by omega, rfl, rfl, ?_, Nat.le_refl _, Lib.hid ?_, (Below.refl _ _).alloc (Nat.le_refl _) _⟩
          · show (w3.heap.push _)[w3.heap.size]? = _
            simp
          · intro k hk
            rw [List.take_zero, like_nil_take L k hk, Array.getElem?_setIfInBounds]
            by_cases h0 : k = 0
            · subst h0; rw [if_pos rfl, if_pos (by rw [flags_size]; omega)]; rfl
            · rw [if_neg (fun e => h0 e.symm), flags_get (by omega)]; simp [h0]
        case round =>
          obtain ⟨i, G, cur, hi, rfl, rfl, hG, hG3, HROW, hbw⟩ := hrel
          have hGs : G < wr.heap.size := (Array.getElem?_eq_some_iff.1 hG).1
          have HG := Lib.hid hG; have HBW := Lib.hid hbw
          clear hG hbw
          obtain rfl : i = P.length := by omega
          have hrow := HROW.out L.length (Nat.le_refl _)
          rw [List.take_length, List.take_length] at hrow
          have hcell : wr.cell? ⟨G, L.length, none⟩ = some (.bool (like P L)) := by rw [cell_of_heap HG.out]; exact hrow
          have HE := Lib.hid (HBK.out.trans (HBW.out.mono HBK.out.size))
          clear hrow HROW
          go_wp2
          go_ret2
          exact ⟨rfl, HE.out⟩
      · obtain ⟨gp, capp, rfl, hgp, hcp⟩ := row_cells HO13.out hP0
        have HCP := Lib.hid hcp
        clear hcp HO13
        go_wp2
        go_loopw [10, 11] (fun v10 v11 wr => ∃ (i G : Nat) (cur : Array Value), i ≤ P.length ∧ v11 = .int .i64 i ∧ v10 = .slice (some ⟨G, 0, none⟩) (L.length + 1) (L.length + 1) ∧ wr.heap[G]? = some (.cells cur 4) ∧ w3.heap.size ≤ G ∧ Hid (∀ k, k ≤ L.length → cur[k]? = some (.bool (like (P.take i) (L.take k)))) ∧ Below w3.heap.size w3 wr) (fun _ v11 _ => P.length - (intOf v11).toNat)
        case atStart =>
          refine ⟨0, w3.heap.size, (flags (L.length + 1)).setIfInBounds 0 (.bool true), by omega, rfl, rfl, ?_, Nat.le_refl _, Lib.hid ?_, (Below.refl _ _).alloc (Nat.le_refl _) _⟩
          · show (w3.heap.push _)[w3.heap.size]? = _
            simp
          · intro k hk
            rw [List.take_zero, like_nil_take L k hk, Array.getElem?_setIfInBounds]
            by_cases h0 : k = 0
            · subst h0; rw [if_pos rfl, if_pos (by rw [flags_size]; omega)]; rfl
            · rw [if_neg (fun e => h0 e.symm), flags_get (by omega)]; simp [h0]
        case round =>
          obtain ⟨i, G, cur, hi, rfl, rfl, hG, hG3, HROW, hbw⟩ := hrel
          have hGs : G < wr.heap.size := (Array.getElem?_eq_some_iff.1 hG).1
          have HG := Lib.hid hG; have HBW := Lib.hid hbw
          clear hG hbw
          by_cases hlt : i < P.length
          · obtain ⟨c, hci⟩ : ∃ c, P[i]? = some c := ⟨_, List.getElem?_eq_getElem hlt⟩
            have HCI := Lib.hid hci
            clear hci
            have hwrs := HBW.out.size
            rename World => wo
            go_wp2
            go_loopw [13] (fun v13 wq => ∃ (k : Nat) (cur2 : Array Value), k ≤ L.length + 1 ∧ v13 = .int .i64 k ∧ wq.heap[wo.heap.size]? = some (.cells cur2 4) ∧ cur2.size = L.length + 1 ∧ Hid (∀ j, j < k → cur2[j]? = some (.bool (like (P.take (i + 1)) (L.take j)))) ∧ Hid (∀ j, k ≤ j → j ≤ L.length → cur2[j]? = some (.bool false)) ∧ Only wo.heap.size (wo.alloc (.cells (flags (L.length + 1)) 4)) wq) (fun v13 _ => L.length + 1 - (intOf v13).toNat)
            case atStart =>
              refine ⟨0, flags (L.length + 1), by omega, rfl, ?_, flags_size _, Lib.hid (fun j hj => absurd hj (by omega)), Lib.hid (fun j _ hj => flags_get (by omega)), Only.refl _ _⟩
              show (wo.heap.push _)[wo.heap.size]? = _
              simp
            case round =>
              rename World => wq
              obtain ⟨k, cur2, hk, rfl, hq, hcs, HDN, HRS, honly⟩ := hrel
              have hold : ∀ b, b < wo.heap.size → wq.heap[b]? = wo.heap[b]? := fun b hb => (honly.block b (by omega)).trans (Below.heap_alloc _ _ _ hb)
              have HONLY := Lib.hid honly; have HQ := Lib.hid hq
              clear honly hq
              by_cases hkl : k ≤ L.length
              · have hkL : (k : Int) ≤ (L.length : Int) := by omega
                have hcp : wq.cell? ⟨gp, i, none⟩ = some (.int .i32 (c : Int)) := by
                  rw [World.cell?_of_block (a := ⟨gp, i, none⟩) (hold gp (by omega)), HBW.out.cell (p := ⟨gp, i, none⟩) hgp]; exact HCP.out i c HCI.out
                have hcg : ∀ j, j ≤ L.length → wq.cell? ⟨G, j, none⟩ = some (.bool (like (P.take i) (L.take j))) := fun j hj => by
                  rw [World.cell?_of_block (a := ⟨G, j, none⟩) (hold G hGs), cell_of_heap HG.out]; exact HROW.out j hj
                have hck := hcg k hkl
                have hst : wq.cell? ⟨wo.heap.size, k, none⟩ = some (.bool false) := by rw [cell_of_heap HQ.out]; exact HRS.out k (Nat.le_refl _) hkl
                have hfz : wq.frozen? ⟨wo.heap.size, k, none⟩ = false := frozen_of_heap HQ.out
                have HCG := Lib.hid hcg; have HOLD := Lib.hid hold
                clear hcg hold
                by_cases h42 : c = 42
                · subst h42
                  have hstar := row_star P L i k HCI.out hkl
                  cases hb : like (P.take i) (L.take k) with
                  | true =>
                    rw [hb] at hck
                    rw [hb, Bool.true_or] at hstar
                    have HST := Lib.hid hstar
                    clear hstar hb
                    go_wp2
                    go_roundw
                    case rel =>
                      refine ⟨k + 1, cur2.setIfInBounds k (.bool true), by omega, by go_num, setCell_heap _ _ _ _ _ _ HQ.out, by rw [Array.size_setIfInBounds]; exact hcs, Lib.hid (rows_put HDN.out (by omega) (by rw [HST.out])), Lib.hid (rest_put HRS.out), HONLY.out.setCell _ _⟩
                    case measure => (simp [intOf] <;> omega)
                  | false =>
                    rw [hb] at hck
                    rw [hb, Bool.false_or] at hstar
                    by_cases hk0 : k = 0
                    · subst hk0
                      have HST := Lib.hid hstar
                      clear hstar hb
                      go_wp2
                      go_roundw
                      case rel =>
                        refine ⟨0 + 1, cur2.setIfInBounds 0 (.bool false), by omega, by go_num, setCell_heap _ _ _ _ _ _ HQ.out, by rw [Array.size_setIfInBounds]; exact hcs, Lib.hid (rows_put HDN.out (by omega) (by rw [HST.out]; rfl)), Lib.hid (rest_put HRS.out), HONLY.out.setCell _ _⟩
                      case measure => (simp [intOf] <;> omega)
                    · obtain ⟨k', rfl⟩ : ∃ k', k = k' + 1 := ⟨k - 1, by omega⟩
                      have hprev : wq.cell? ⟨wo.heap.size, k', none⟩ = some (.bool (like (P.take (i + 1)) (L.take k'))) := by rw [cell_of_heap HQ.out]; exact HDN.out k' (by omega)
                      rw [show decide (0 < k' + 1) = true by simp, Bool.true_and, Nat.add_sub_cancel] at hstar
                      have HST := Lib.hid hstar
                      generalize hbp : like (P.take (i + 1)) (L.take k') = bp at *
                      clear hstar hb hbp
                      go_wp2
                      go_roundw
                      case rel =>
                        refine ⟨k' + 1 + 1, cur2.setIfInBounds (k' + 1) (.bool bp), by omega, by go_num, setCell_heap _ _ _ _ _ _ HQ.out, by rw [Array.size_setIfInBounds]; exact hcs, Lib.hid (rows_put HDN.out (by omega) (by rw [HST.out])), Lib.hid (rest_put HRS.out), HONLY.out.setCell _ _⟩
                      case measure => (simp [intOf] <;> omega)
                · have d42 : ((c : Int) == 42) = false := by simp; omega
                  by_cases hk0 : k = 0
                  · subst hk0
                    have hz := row_zero P L i c HCI.out h42
                    have h00 := HRS.out 0 (Nat.le_refl _) (by omega)
                    have HZ := Lib.hid hz; have H00 := Lib.hid h00
                    clear hz h00 h42 hck
                    go_wp2
                    go_roundw
                    case rel =>
                      refine ⟨1, cur2, by omega, by go_num, HQ.out, hcs, Lib.hid (fun j hj => ?_), Lib.hid (fun j hj hj2 => HRS.out j (by omega) hj2), HONLY.out⟩
                      obtain rfl : j = 0 := by omega
                      rw [HZ.out]; exact H00.out
                    case measure => (simp [intOf] <;> omega)
                  · obtain ⟨k', rfl⟩ : ∃ k', k = k' + 1 := ⟨k - 1, by omega⟩
                    obtain ⟨x, hx⟩ : ∃ x, L[k']? = some x := ⟨_, List.getElem?_eq_getElem (by omega)⟩
                    have hlx : wq.cell? ⟨gl, k', none⟩ = some (.int .i32 (x : Int)) := by
                      rw [World.cell?_of_block (a := ⟨gl, k', none⟩) (HOLD.out gl (by omega)), HBW.out.cell (p := ⟨gl, k', none⟩) hgl]; exact HCL.out k' x hx
                    have hcm := HCG.out k' (by omega)
                    have hstep := row_step P L i k' c x HCI.out h42 hx
                    have HST := Lib.hid hstep
                    generalize hbb : like (P.take i) (L.take k') = bb at *
                    clear hstep hbb hx hck h42
                    have hkk : (0 : Int) < (k' : Int) + 1 := by omega
                    have hk1 : (k' : Int) + 1 - 1 = (k' : Int) := by omega
                    have hkL2 : (k' : Int) < (L.length : Int) := by omega
                    have hkL3 : (k' : Int) < (L.length : Int) + 1 := by omega
                    have hkL4 : (k' : Int) + 1 < (L.length : Int) + 1 := by omega
                    have hiP : (i : Int) < (P.length : Int) := by omega
                    have m1 : IntKind.i64.wrap (k' : Int) = (k' : Int) := by rw [IntKind.wrap_i64]; omega
                    have m2 : (0 : Int) ≤ (k' : Int) := by omega
                    have m3 : (0 : Int) ≤ (i : Int) := by omega
                    have m4 : (0 : Int) ≤ (k' : Int) + 1 := by omega
                    have m5 : ((k' : Int) + 1).toNat = k' + 1 := by omega
                    have hz1 : wq.drew.cell? ⟨G, k', none⟩ = some (.bool bb) := hcm
                    have hz2 : wq.drew.cell? ⟨gp, i, none⟩ = some (.int .i32 (c : Int)) := hcp
                    have hz3 : wq.drew.cell? ⟨gl, k', none⟩ = some (.int .i32 (x : Int)) := hlx
                    have hz4 : wq.drew.cell? ⟨wo.heap.size, k' + 1, none⟩ = some (.bool false) := hst
                    have hz5 : wq.drew.frozen? ⟨wo.heap.size, k' + 1, none⟩ = false := hfz
                    have HOZ : Hid (Only wo.heap.size (wo.alloc (.cells (flags (L.length + 1)) 4)) wq.drew) := Lib.hid ⟨HONLY.out.os, HONLY.out.tape, HONLY.out.output, HONLY.out.size, HONLY.out.block⟩
                    have HQZ : Hid (wq.drew.heap[wo.heap.size]? = some (.cells cur2 4)) := Lib.hid HQ.out
                    clear hcm hlx hst hfz
                    cases bb with
                    | false =>
                      go_wp2
                      go_region
                      go_wp2
                      go_roundw
                      case rel =>
                        refine ⟨k' + 1 + 1, cur2.setIfInBounds (k' + 1) (.bool false), by omega, by go_num, setCell_heap _ _ _ _ _ _ HQZ.out, by rw [Array.size_setIfInBounds]; exact hcs, Lib.hid (rows_put HDN.out (by omega) (by rw [HST.out]; rfl)), Lib.hid (rest_put HRS.out), HOZ.out.setCell _ _⟩
                      case measure => (simp [intOf] <;> omega)
                    | true =>
                      by_cases h63 : c = 63
                      · subst h63
                        go_wp2
                        go_region
                        go_wp2
                        go_roundw
                        case rel =>
                          refine ⟨k' + 1 + 1, cur2.setIfInBounds (k' + 1) (.bool true), by omega, by go_num, setCell_heap _ _ _ _ _ _ HQZ.out, by rw [Array.size_setIfInBounds]; exact hcs, Lib.hid (rows_put HDN.out (by omega) (by rw [HST.out]; rfl)), Lib.hid (rest_put HRS.out), HOZ.out.setCell _ _⟩
                        case measure => (simp [intOf] <;> omega)
                      · have d63 : ((c : Int) == 63) = false := by simp; omega
                        obtain ⟨bx, hbx⟩ : ∃ bx, ((c : Int) == (x : Int)) = bx := ⟨_, rfl⟩
                        have HBX : Hid ((true && (c == 63 || c == x)) = bx) := Lib.hid (by
                          rw [← hbx]
                          have e1 : (c == 63) = false := by simp; omega
                          rw [e1, Bool.true_and, Bool.false_or]
                          by_cases hcx : c = x
                          · subst hcx; simp
                          · have hcy : ¬ (c : Int) = (x : Int) := by omega
                            rw [beq_eq_false_iff_ne.2 hcx, beq_eq_false_iff_ne.2 hcy])
                        go_wp2
                        go_region
                        go_wp2
                        go_roundw
                        case rel =>
                          refine ⟨k' + 1 + 1, cur2.setIfInBounds (k' + 1) (.bool bx), by omega, by go_num, setCell_heap _ _ _ _ _ _ HQZ.out, by rw [Array.size_setIfInBounds]; exact hcs, Lib.hid (rows_put HDN.out (by omega) (by rw [HST.out]; exact HBX.out)), Lib.hid (rest_put HRS.out), HOZ.out.setCell _ _⟩
                        case measure => (simp [intOf] <;> omega)
              · obtain rfl : k = L.length + 1 := by omega
                have HN : Below w3.heap.size w3 wq := (HBW.out.alloc HBW.out.size _).trans (HONLY.out.below HBW.out.size)
                have HNB := Lib.hid HN
                clear HN hold
                go_wp2
                go_roundw
                case rel => exact ⟨i + 1, wo.heap.size, cur2, by omega, by go_num, rfl, HQ.out, HBW.out.size, Lib.hid (fun j hj => HDN.out j (by omega)), HNB.out⟩
                case measure => (simp [intOf] <;> omega)
          · obtain rfl : i = P.length := by omega
            have hrow := HROW.out L.length (Nat.le_refl _)
            rw [List.take_length, List.take_length] at hrow
            have hcell : wr.cell? ⟨G, L.length, none⟩ = some (.bool (like P L)) := by rw [cell_of_heap HG.out]; exact hrow
            have HE := Lib.hid (HBK.out.trans (HBW.out.mono HBK.out.size))
            clear hrow HROW
            go_wp2
            go_ret2
            exact ⟨rfl, HE.out⟩
  · have h' : (okB p.data.toList && decide (p.data.toList.length ≤ 255)) = false := by
      rw [← Lib.size_eq]
      cases h1 : okB p.data.toList with
      | false => rfl
      | true => simp; exact Classical.byContradiction fun hh => h ⟨h1, by omega⟩
    rw [matchR, h']
    cases h1 : okB p.data.toList with
    | false =>
      rw [h1] at hr1
      have HR1 := Lib.hid hr1
      clear hr1 h h' h1
      go_enter Tryd.func25, Tryd.ntmps25
      go_wp2_with fail
      refine HR1.out.mono ?_
      rintro e w1 ⟨v, rfl, ho, hb1⟩
      have HB := Lib.hid hb1
      clear ho hb1
      go_wp2
      go_ret2
      exact ⟨rfl, HB.out⟩
    | true =>
      rw [h1] at hr1
      have h255 : (255 : Int) < (p.size : Int) := by
        have : ¬ p.size ≤ 255 := fun hh => h ⟨h1, hh⟩
        omega
      have HR1 := Lib.hid hr1
      clear hr1 h h' h1
      go_enter Tryd.func25, Tryd.ntmps25
      go_wp2_with fail
      refine HR1.out.mono ?_
      rintro e w1 ⟨v, rfl, ho, hb1⟩
      have HB := Lib.hid hb1
      clear ho hb1
      go_wp2
      go_ret2
      exact ⟨rfl, HB.out⟩
end Go.Proofs.YtofdhhemdoodaaaDoor.Nm
