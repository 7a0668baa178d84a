import Derived.Test.YtnkapojbijbbaaaGreatDoorZPSrStat
import Derived.Maps.AppendAt
import Derived.Lib.SliceRun
set_option linter.unusedSimpArgs false
set_option linter.unusedVariables false
set_option maxHeartbeats 4000000
set_option maxRecDepth 100000
namespace Go.Proofs.YtnkapojbijbbaaaGreatDoor.Sr
open Go.RowKit Go.Maps Go.WideMaps Rf Go.Proofs.YtnkapojbijbbaaaGreatDoor.Nm St
abbrev Xs := List (List UInt8 × List UInt8)
theorem xcells_length : ∀ xs : Xs, (xcells xs).length = xs.length * 2
 | [] => rfl
 | x :: r => by
   have := xcells_length r
   rw [xcells, List.flatMap_cons, List.length_append, ← xcells, this, List.length_cons]
   simp; omega
theorem xcells_one (xs : Xs) : ∀ u ∈ xcells xs, u.oneCell' = true := by
 intro u hu
 obtain ⟨x, _, hx⟩ := List.mem_flatMap.1 hu
 simp at hx
 rcases hx with rfl | rfl <;> rfl
theorem xcells_at : ∀ {xs : Xs} {i : Nat} {x : List UInt8 × List UInt8}, xs[i]? = some x → (xcells xs)[i * 2]? = some (.string ⟨x.1.toArray⟩) ∧ (xcells xs)[i * 2 + 1]? = some (.string ⟨x.2.toArray⟩)
 | y :: r, 0, x, h => by
   obtain rfl := Option.some.inj h
   exact ⟨rfl, rfl⟩
 | y :: r, i + 1, x, h => by
   have := xcells_at (xs := r) (i := i) (x := x) h
   rw [show (i + 1) * 2 = i * 2 + 1 + 1 by omega]
   exact this
theorem xcells_cell {xs : Xs} {j : Nat} {u : Value} (h : (xcells xs)[j]? = some u) : ∃ x, xs[j / 2]? = some x ∧ (j = j / 2 * 2 ∧ u = .string ⟨x.1.toArray⟩ ∨ j = j / 2 * 2 + 1 ∧ u = .string ⟨x.2.toArray⟩) := by
 have hj := (List.getElem?_eq_some_iff.1 h).1
 rw [xcells_length] at hj
 obtain ⟨x, hx⟩ : ∃ x, xs[j / 2]? = some x := ⟨_, List.getElem?_eq_getElem (by omega)⟩
 obtain ⟨h1, h2⟩ := xcells_at hx
 refine ⟨x, hx, ?_⟩
 by_cases hp : j = j / 2 * 2
 · rw [← hp, h] at h1
   exact .inl ⟨hp, Option.some.inj h1⟩
 · have hq : j = j / 2 * 2 + 1 := by omega
   rw [← hq, h] at h2
   exact .inr ⟨hq, Option.some.inj h2⟩
theorem xs_of_own {w : World} {B : Nat} {v : Value} {xs : Xs} (h : w.ownsRow B 123 2 v xs.length (xcells xs)) (hl : ∀ x ∈ xs, x.1.length ≤ maxLen ∧ x.2.length ≤ maxLen) : XsAt w v xs ∧ ∀ b ∈ xob xs v, B ≤ b := by
 obtain ⟨a, c, rfl⟩ := rowS_slice h
 have hm : xs.length ≤ maxLen := by
  rcases h with ⟨_, ⟨_, h0⟩ | ⟨g, cap, cur, _, _, _, h1, h2, _⟩⟩
  · rw [h0]; exact Nat.zero_le _
  · exact Nat.le_trans h1 h2
 refine ⟨⟨a, c, rfl, hm, hl, fun hne => ?_⟩, fun b hb => ?_⟩
 · obtain ⟨g, cap, hv, hg, _, _, hc⟩ := rowS_form h (fun h0 => hne (List.length_eq_zero_iff.1 h0))
   injection hv with e1 _ _
   subst e1
   refine ⟨g, 0, rfl, hg, fun i x hx => ?_⟩
   obtain ⟨h1, h2⟩ := xcells_at hx
   rw [Nat.zero_add]
   exact ⟨hc _ _ h1, hc _ _ h2⟩
 · cases xs with
   | nil => simp [xob] at hb
   | cons x r =>
     obtain ⟨g, cap, hv, hg, hB, _, hc⟩ := rowS_form h (by simp)
     injection hv with e1 _ _
     subst e1
     simp [xob] at hb
     subst hb; exact hB
theorem infoXa : (Tryz.prog.info? 123).map (fun i => (i.zero, i.size, i.bytes)) = some (some (.agg #[.string ⟨#[]⟩, .string ⟨#[]⟩]), 2, 32) := by kernel_rfl
theorem xclone_own (w : World) (v : Value) (xs : Xs) (h : XsAt w v xs) (hl : xs.length ≤ 1000) :
 Calls Tryz.prog 93 #[v] w fun e w' => ∃ v', e = .returned v' ∧ XsAt w' v' xs ∧ (∀ b ∈ xob xs v', w.heap.size ≤ b) ∧ Below w.heap.size w w' ∧ w'.ownsRow w.heap.size 123 2 v' xs.length (xcells xs) := by
 obtain ⟨a, c, rfl, h1, h2, h3⟩ := h
 have H2 := Lib.hid h2; have H3 := Lib.hid h3
 obtain ⟨i0, hi, hz0, hz1, hz2⟩ := info_parts infoXa
 have hz3 : (Value.agg #[.string ⟨#[]⟩, .string ⟨#[]⟩]).cells.size = 2 := by kernel_rfl
 have q22 : ∀ (w : World) (a : Option Addr) (n c n' c' : Nat), (binOp .eql 77 (.slice a n c) (.slice none n' c')).run Tryz.prog w = .ok (.bool a.isNone) w := fun w a n c n' c' => Lib.run_eql_slice_nil w _ _ a n c n' c' Tryz.underlying77
 have HL := Lib.hid (xcells_length xs)
 clear h2 h3
 cases a with
 | none =>
   have hx : xs = [] := by
    cases xs with
    | nil => rfl
    | cons x r => obtain ⟨b, o, hc, _⟩ := H3.out (by simp); cases hc
   subst hx
   go_enter Tryz.func93, Tryz.ntmps93
   go_wp2
   go_ret
   exact ⟨_, rfl, ⟨none, 0, rfl, by simp, by simp, by simp⟩, by simp [xob], Below.refl _ _, rowS_nil _ _ _ _⟩
 | some ad =>
   have HC : Hid (∀ (j : Nat) u, (xcells xs)[j]? = some u → w.cell? (ad.add j) = some u) := Lib.hid (by
    intro j u hj
    obtain ⟨x, hx, hu⟩ := xcells_cell hj
    obtain ⟨b, o, hab, _, hc⟩ := H3.out (by rintro rfl; cases hx)
    injection hab with hab
    subst hab
    rw [Addr.add_lit]
    obtain ⟨c1, c2⟩ := hc _ x hx
    rcases hu with ⟨e, rfl⟩ | ⟨e, rfl⟩
    · rw [e, ← e]; rw [← e] at c1; exact c1
    · rw [Nat.add_assoc, ← e] at c2; exact c2)
   go_enter Tryz.func93, Tryz.ntmps93
   go_wp2_with (at_builtin; refine wpList_append_own_at _ rfl _ _ 77 rfl w.heap.size 123 i0 _ 2 32 Tryz.underlying77 hi hz0 hz1 hz2 hz3 (by decide) _ _ _ rfl (World.ownsRow_made w #[] 0 (Nat.le_refl _) (Nat.zero_le _) rfl) ad xs.length c (xcells xs) rfl HL.out ?d2 (xcells_one xs) ?d3 ?d4 ?d5 ?_)
   case d2 => intro j u hj; exact Lib.cell?_alloc_some _ (HC.out j u hj)
   case d3 => unfold maxLen; omega
   case d4 => omega
   case d5 => simp
   intro v' w1 hown hgrow hnil hat
   have HO := Lib.hid hown; have HG := Lib.hid hgrow
   clear hown hgrow hnil hat
   go_wp2
   go_ret
   have ho : w1.ownsRow w.heap.size 123 2 v' xs.length (xcells xs) := by simpa using HO.out
   obtain ⟨k1, k2⟩ := xs_of_own ho H2.out
   refine ⟨v', rfl, k1, k2, ?_, ho⟩
   exact ((Below.refl _ w).alloc (Nat.le_refl _) _).grown HG.out (by simp) (by intro k hk; simp [Value.ownBlock] at hk; omega)
abbrev AtT : TypeId := 79
theorem infoAt (A : XA) (v : Value) : (Tryz.prog.info? AtT).map (·.size) = some (A.cells v).toArray.size := by show _ = some 7; kernel_rfl
theorem atOne (A : XA) {v : Value} (hv : v.oneCell' = true) : (A.cells v).toArray.all (·.oneCell') = true := by
 rw [Array.all_eq_true_iff_forall_mem]
 intro u hu
 simp [XA.cells] at hu
 rcases hu with rfl | rfl | rfl | rfl | rfl | rfl | rfl <;> first | rfl | exact hv
theorem xs_one {w : World} {v : Value} {xs : Xs} (h : XsAt w v xs) : v.oneCell' = true := by obtain ⟨a, c, rfl, _⟩ := h; rfl
def zeroA : XA := ⟨0, 0, 0, 0, 0, [], []⟩
theorem own_own (w : World) (A : XA) (v : Value) (h : XsAt w v A.xs) (hl : A.xs.length ≤ 1000) :
 Calls Tryz.prog 80 #[.agg (A.cells v).toArray] w fun e w' => ∃ v', e = .returned (.agg (A.cells v').toArray) ∧ XsAt w' v' A.xs ∧ (∀ b ∈ xob A.xs v', w.heap.size ≤ b) ∧ Below w.heap.size w w' ∧ w'.ownsRow w.heap.size 123 2 v' A.xs.length (xcells A.xs) := by
 obtain ⟨W, hW⟩ : ∃ W, W = (w.alloc (.cells (A.cells v).toArray AtT)).alloc (.cells (zeroA.cells (.slice none 0 0)).toArray AtT) := ⟨_, rfl⟩
 have hb0 : Below w.heap.size w W := by rw [hW]; exact ((Below.refl _ _).alloc (Nat.le_refl _) _).alloc (by rw [one_size]; omega) _
 have hq0 : W.heap[w.heap.size]? = some (.cells (A.cells v).toArray AtT) := by rw [hW]; exact at_alloc (MapKept.heap_alloc w _).1 _
 have hr0 : W.heap[w.heap.size + 1]? = some (.cells (zeroA.cells (.slice none 0 0)).toArray AtT) := by
  have := (MapKept.heap_alloc (w.alloc (.cells (A.cells v).toArray AtT)) (.cells (zeroA.cells (.slice none 0 0)).toArray AtT)).1
  rw [one_size] at this
  rw [hW]; exact this
 have CL := Lib.hid (xclone_own W v A.xs (h.kept hb0.size (fun b hb => hb0.block b (h.lt b hb))) hl)
 have cq : ((w.alloc (.cells (A.cells v).toArray AtT)).alloc (.cells #[.int .u8 0, .int .u32 0, .int .u32 0, .int .u32 0, .int .i64 0, .string ⟨#[]⟩, .slice none 0 0] AtT)).cell? ⟨w.heap.size, 6, none⟩ = some v := by
  show ((w.alloc (.cells (A.cells v).toArray AtT)).alloc (.cells (zeroA.cells (.slice none 0 0)).toArray AtT)).cell? _ = _
  rw [← hW]; exact cell_of_heap hq0
 have HB0 := Lib.hid hb0; have HQ0 := Lib.hid hq0; have HR0 := Lib.hid hr0; have HW := Lib.hid hW
 have HV := Lib.hid (xs_one h)
 obtain ⟨va, vc, rfl, _⟩ := h
 clear hb0 hq0 hr0 hW
 go_enter Tryz.func80, Tryz.ntmps80
 go_wp2_with fail
 change Calls _ _ _ ((w.alloc (.cells (A.cells (.slice va A.xs.length vc)).toArray AtT)).alloc (.cells (zeroA.cells (.slice none 0 0)).toArray AtT)) _
 rw [← HW.out]
 refine CL.out.mono ?_
 rintro e w1 ⟨v', rfl, hx1, hf1, hb1, ho1⟩
 have HO1 := Lib.hid ho1
 have HB1 := Lib.hid (HB0.out.trans (hb1.mono HB0.out.size))
 have hq1 := (hb1.block _ (lt_of_heap HQ0.out)).trans HQ0.out
 have HR1 := Lib.hid ((hb1.block _ (lt_of_heap HR0.out)).trans HR0.out)
 have HX1 := Lib.hid hx1; have HF1 := Lib.hid (fun b hb => Nat.le_trans HB0.out.size (hf1 b hb))
 have hov : v'.oneCell' = true := xs_one hx1
 obtain ⟨va', vc', rfl, _⟩ := hx1
 have c1 : w1.cell? ⟨w.heap.size, 6, none⟩ = some (.slice va A.xs.length vc) := cell_of_heap hq1
 have f1 : w1.frozen? ⟨w.heap.size, 6, none⟩ = false := frozen_of_heap hq1
 have HQ2 : Hid ((w1.setCell ⟨w.heap.size, 6, none⟩ (.slice va' A.xs.length vc')).heap[w.heap.size]? = some (.cells (A.cells (.slice va' A.xs.length vc')).toArray AtT)) := Lib.hid (by rw [setCell_heap _ _ _ _ _ _ hq1]; rfl)
 have HR2 : Hid ((w1.setCell ⟨w.heap.size, 6, none⟩ (.slice va' A.xs.length vc')).heap[w.heap.size + 1]? = some (.cells (zeroA.cells (.slice none 0 0)).toArray AtT)) := Lib.hid ((Below.heap_setCell _ _ _ _ (show w.heap.size + 1 ≠ w.heap.size by omega)).trans HR1.out)
 have HB2 : Hid (Below w.heap.size w (w1.setCell ⟨w.heap.size, 6, none⟩ (.slice va' A.xs.length vc'))) := Lib.hid (HB1.out.setCell (Nat.le_refl _) _)
 have HS1 : Hid (w.heap.size + 2 ≤ w1.heap.size) := Lib.hid (by have := lt_of_heap HR1.out; omega)
 have HFS : Hid (∀ b ∈ xob A.xs (.slice va' A.xs.length vc'), w.heap.size + 2 ≤ b) := Lib.hid (fun b hb => by have := hf1 b hb; rw [HW.out, one_size, one_size] at this; omega)
 clear hb1 CL hq1 hf1 ho1
 go_wp2_with (first
  | (refine Sh.wpList_load_at (T := AtT) (cs := (A.cells (.slice va' A.xs.length vc')).toArray) HQ2.out rfl AtT (.tmp 1) rfl rfl _ Tryz.underlying79 rfl (infoAt _ _) ?_)
  | (refine Sh.wpList_store_at HR2.out rfl AtT (.tmp 2) (.tmp 7) rfl (A.cells (.slice va' A.xs.length vc')).toArray rfl rfl (infoAt _ _) rfl (atOne A rfl) ?_
     intro w3 hq3 ht3 hs3
     have HQ3 := Lib.hid hq3; have HT3 := Lib.hid ht3
     clear hq3 ht3 hs3))
 refine bodyPost_ret (v := .agg (A.cells (.slice va' A.xs.length vc')).toArray) (results_cell_row (fn := Tryz.f80) rfl _ _ (w.heap.size + 1) _ _ _ _ rfl HQ3.out Tryz.underlying79 rfl (infoAt _ _)) rfl ?_
 have hB3 : Below w.heap.size w w3 := HB2.out.trans (HT3.out.below (by simp) HB2.out.size)
 have hk : ∀ b, w.heap.size + 2 ≤ b → b < w1.heap.size → w3.heap[b]? = w1.heap[b]? := fun b hb hlt => by
  rw [HT3.out.block b (by rw [World.size_setCell]; exact hlt) (by simp; omega)]
  exact Below.heap_setCell _ _ _ _ (show b ≠ w.heap.size by omega)
 refine ⟨_, rfl, HX1.out.kept ?_ (fun b hb => hk b (HFS.out b hb) (HX1.out.lt b hb)), fun b hb => by have := HFS.out b hb; omega, hB3, ?_⟩
 · have := HT3.out.size
   rw [World.size_setCell] at this
   exact this
 · refine row_mono (rowS_kept HO1.out (fun b hb hl => hk b ?_ hl)) HB0.out.size
   have := rowS_ge HO1.out b hb
   rw [HW.out, one_size, one_size] at this
   omega
theorem own_any (w : World) (A : XA) (v : Value) (h : XsAt w v A.xs) (hl : A.xs.length ≤ 1000) :
 Calls Tryz.prog 80 #[.agg (A.cells v).toArray] w fun e w' => ∃ v', e = .returned (.agg (A.cells v').toArray) ∧ XsAt w' v' A.xs ∧ (∀ b ∈ xob A.xs v', w.heap.size ≤ b) ∧ Below w.heap.size w w' :=
 (own_own w A v h hl).mono (fun _ _ ⟨v', a, b, c, d, _⟩ => ⟨v', a, b, c, d⟩)
end Go.Proofs.YtnkapojbijbbaaaGreatDoor.Sr
