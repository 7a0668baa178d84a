/-
  The statement NamesBack, with its card: any text can be shown in plain letters and read again, and paths there and back, for all texts and every list. Conditions: the row's own; what is listed reads as its text lays it.
-/
import Derived.Test.YtofdhhemdoodaaaDoorCards
import Derived.Test.YtofdhhemdoodaaaDoorTie
import Derived.Test.YtofdhhemdoodaaaDoorNmLawBack
import Derived.Test.YtofdhhemdoodaaaDoorRowKit
import Derived.Test.YtofdhhemdoodaaaDoorNmTabs2
import Derived.Test.YtofdhhemdoodaaaDoorNmLaid
import Derived.Deep.DeepWitnessRowRef
import Derived.SliceStrings
import Derived.Lib.LaidU8
import Derived.ProofKit
import Derived.OpenShut
import Derived.Deep.DeepHandedRow
import Derived.Lib.LaidTab
import Derived.Lib.DecodeN
import Derived.SizedLaws
namespace Go.Proofs.YtofdhhemdoodaaaDoor.NmBackCard
open Go.ChangeShapes Go.WideShapes Go.ChangeAt Go.RowKit
open Go.ChangeMaps (open_string shut_string)

theorem own : ownKnob Tryd.prog.godebug = none := by kernel_rfl

theorem laidOut : laidOutB Tryd.prog = true := by kernel_rfl
theorem readStrs : Tryd.prog.readableRec 29 = true := by kernel_rfl
theorem rowStrs : 29 < Tryd.prog.types.size := of_decide_eq_true (by kernel_rfl)
theorem cellsStr : Tryd.prog.cellsOf 9 = 1 := by kernel_rfl
theorem bytesStr : Tryd.prog.bytesOf 9 = 16 := by kernel_rfl

/-- A list of texts that came in. -/
theorem strsAt_of_open {W : World} {a : Addr} {len cap : Nat} {ss : List ByteArray} (hb : 0 < len → a.block < W.heap.size) (hlen : len ≤ ss.length) (hm : len ≤ maxLen) (hcell : ∀ i, i < ss.length → W.cell? (a.add i) = some (.string (ss.getD i ByteArray.empty))) :
    Nm.StrsAt W (.slice (some a) len cap) ((ss.take len).map (·.data.toList)) := by
  have hl : ((ss.take len).map (·.data.toList)).length = len := by simp; omega
  refine ⟨some a, cap, by rw [hl], by rw [hl]; exact hm, fun hne => ?_⟩
  have h0 : 0 < len := by
    rcases Nat.eq_zero_or_pos len with h | h
    · rw [h] at hne; simp at hne
    · exact h
  obtain ⟨b, o, sp⟩ := a
  have hc0 := hcell 0 (by omega)
  have e0 : (⟨b, o, sp⟩ : Addr).add 0 = ⟨b, o, sp⟩ := by simp [Addr.add]
  rw [e0] at hc0
  obtain rfl : sp = none := Go.Proofs.cell_spot hc0
  refine ⟨b, o, rfl, hb h0, fun j x hj => ?_⟩
  have hj' : j < len := by have := (List.getElem?_eq_some_iff.1 hj).1; omega
  have := hcell j (by omega)
  rw [Addr.add_lit] at this
  rw [this]
  rw [List.getElem?_map, List.getElem?_take_of_lt hj', List.getElem?_eq_getElem (by omega)] at hj
  simp only [Option.map_some, Option.some.injEq] at hj
  rw [← hj, Nm.sv_data]
  simp [List.getD, List.getElem?_eq_getElem (show j < ss.length by omega)]

set_option maxRecDepth 100000 in
theorem contract (H : Type) (enc : TypeId × Value → H) (W : World) (base : Nat) (args : Array Value) (ds gs : List (DataW H)) (before : List MemPlace)
    (hval : ∀ (j : Nat) t v, Tryd.f6.params[j]? = some t → args[j]? = some v → Value.okWide Tryd.prog W .any base t v)
    (hW : DataW.Whole enc Tryd.prog Tryd.f6.params.toList Rows.namesBackSpec.vars false W args.toList ds gs before)
    (hz : (DataW.weightsEach Tryd.prog (Tryd.f6.params.toList ++ (OpenSpec.ofChange Rows.namesBackSpec).bare.plain.varTypes Tryd.prog) (ds ++ gs)).all (· ≤ reachBytes) = true)
    (hL : laidMetH Tryd.prog Rows.namesBackRow.laid W) :
    Calls Tryd.prog 6 args W fun e W' => ∃ v, e = .returned v ∧ Rows.namesBackSpec.post enc Tryd.prog Tryd.f6 false true false false W args v W' := by
  have hW' := hW
  have hlt0 := fun p hp => hW.lt p hp
  obtain ⟨p, q, hA0, hV, rfl, hfz, hnd⟩ := hW
  have hA : DataW.TrodAll enc Tryd.prog W 0 (fun _ => true) true Tryd.f6.params.toList args.toList ds p := hA0
  rw [Tryd.params6] at hA hval
  obtain ⟨v0, vs0, d0, ds0, p0, q0, hargs, rfl, rfl, h0, r0⟩ := trodAll_cons hA
  obtain ⟨v1, vs1, d1, ds1, p1, q1, rfl, rfl, rfl, h1, r1⟩ := trodAll_cons r0
  obtain ⟨v2, vs2, d2, ds2, p2, q2, rfl, rfl, rfl, h2, r2⟩ := trodAll_cons r1
  obtain ⟨rfl, rfl, rfl⟩ := trodAll_nil r2
  obtain rfl : args = #[v0, v1, v2] := Array.ext' hargs
  obtain ⟨rfl, rfl⟩ := trodVars_none hV
  obtain ⟨s, rfl, rfl, rfl, ws⟩ := open_string Tryd.underlying9 (hval 0 9 v0 rfl rfl) h0
  obtain ⟨t, rfl, rfl, rfl, wt⟩ := open_string Tryd.underlying9 (hval 1 9 v1 rfl rfl) h1
  clear hA0
  simp only [List.append_nil, List.nil_append] at hW' hlt0
  have z0 : s.size ≤ 140737488351232 := Rk.size_le' hz 0 rfl rfl
  have z1 : t.size ≤ 140737488351232 := Rk.size_le' hz 1 rfl rfl
  have hZ : Nm.Tz W := Nm.tz_of_laid hL rfl (by simp [Rows.namesBackRow])
  have hE : Nm.Errs W := Nm.errs_of_laid hL rfl
  have walk : Calls Tryd.prog 6 #[.string s, .string t, v2] W fun e w' => e = .returned (.bool true) ∧ Below W.heap.size W w' := by
    obtain ⟨a0, len, cap, rfl⟩ := okWide_slice Tryd.underlying29 (hval 2 29 v2 rfl rfl)
    obtain ⟨fuel, hf⟩ := h2
    rcases open_strings Tryd.underlying29 Tryd.underlying9 cellsStr hf with ⟨hcs, hx⟩ | ⟨a, len', cap', ss, hcs, _, hl, hm, hzz, hx, hcell, hws⟩
    · simp [Value.cells] at hcs
      obtain ⟨rfl, rfl, rfl⟩ := hcs
      exact Nm.back_any s t _ [] W hZ hE z0 z1 (by simp) (Nm.StrsAt.nil W)
    · simp [Value.cells] at hcs
      obtain ⟨rfl, rfl, rfl⟩ := hcs
      have hss : ss.length = cap := by simpa using hzz
      obtain ⟨rfl, rfl⟩ : d2 = .slice (strs (ss.take len)) (strs (ss.drop len)) ∧ p2 = MemPlace.row a ss.length := by
        simp only [Prod.mk.injEq] at hx; exact hx
      have hreach := sized_slice hz (j := 2) (e := 9) rfl rfl Tryd.underlying29
      rw [bytesStr] at hreach
      have h47 := reachBytes_lt
      have h4 : (2 : Nat) ^ 47 = 140737488355328 := by decide
      have hlens : (strs (ss.take len) : List (DataW H)).length = len := by simp [strs]; omega
      have hrb : reachBytes ≤ 140737488351232 := by decide
      rw [hlens] at hreach
      have hmul : len * 16 ≤ (len + (strs (ss.drop len) : List (DataW H)).length) * 16 := Nat.mul_le_mul_right _ (by omega)
      refine Nm.back_any s t _ ((ss.take len).map (·.data.toList)) W hZ hE z0 z1 ?_ (strsAt_of_open (fun h0 => ?_) (by omega) (by omega) hcell)
      · intro x hx
        obtain ⟨b, hb, rfl⟩ := List.mem_map.1 hx
        rw [← Lib.size_eq]; exact hws b (List.mem_of_mem_take hb)
      · have hc0 := hcell 0 (by omega)
        have e0 : a.add 0 = a := by simp [Addr.add]
        rw [e0] at hc0
        exact World.block_lt_of_cell? _ _ hc0
  refine walk.mono fun e W' ⟨he, hg⟩ => ?_
  subst he
  have back : ∀ sp : Nat → Bool, (∀ x ∈ p2, sp x.block = true) → DataW.Trod enc Tryd.prog W' 0 sp true 29 v2 d2 p2 := fun sp hsp =>
    WideElems.Trod_stays laidOut readStrs rowStrs h2 (fun x hx => hg.same (hlt0 x (by simpa using hx))) hsp
  exact ⟨_, rfl, Rk.post_of_below (pa := p2) (pv := []) hW' (fun _ _ _ => trodAll_cons_mk (shut_bool Tryd.underlying4 _) trodAll_mk0)
    (fun sp hsp => by
      have := trodAll_cons_mk (shut_string Tryd.underlying9 ws) (trodAll_cons_mk (shut_string Tryd.underlying9 wt) (trodAll_cons_mk (back sp (fun x hx => hsp x (by simpa using hx))) trodAll_mk0))
      simpa [Rows.namesBackSpec] using this)
    (fun _ _ => rfl) (by simp) hg (ok_one (by kernel_rfl) rfl (okWide_bool_mk Tryd.underlying4 _))⟩

noncomputable def args0 : Array Value := #[.string ByteArray.empty, .string ByteArray.empty, .slice none 0 0]
theorem laid_met (os : Os) : laidMet Tryd.prog Rows.namesBackRow.laid ((Nm.laidWorld os).forCall (fun _ _ => 0) ⟨#[], args0, []⟩).memory :=
  laidMet_of_run' 8 (by kernel_rfl) (by kernel_rfl)
theorem reads (os : Os) {H : Type} (enc : TypeId × Value → H) : ∃ places, DataW.whole enc Tryd.prog ((Nm.laidWorld os).forCall (fun _ _ => 0) ⟨#[], args0, []⟩).memory Tryd.f6.params.toList Rows.namesBackSpec.vars false args0.toList 8 = some ([.lit (.string []), .lit (.string []), .nil], [], places) :=
  ⟨[], by kernel_rfl⟩

set_option maxRecDepth 100000 in
theorem lifted (os : Os) (started : os.Started) (H : Type) (enc : TypeId × Value → H) (F : Stop.Interp) :
    ReturnsInHanded {} Tryd.checked os 6 .any ((OpenSpec.ofChange Rows.namesBackSpec).preRow enc Tryd.prog Tryd.f6 Rows.namesBackRow.domain false Rows.namesBackRow.laid) (((OpenSpec.ofChange Rows.namesBackSpec).at F).post enc Tryd.prog Tryd.f6 false true false false) := by
  obtain ⟨places, hx⟩ := reads os enc
  refine returnsInHanded_of_row (C := Tryd.checked) (s := OpenSpec.ofChange Rows.namesBackSpec) own started (by kernel_rfl) Tryd.func6
    (witness_row_atRef (enc := enc) (C := Tryd.checked) false (Nm.laidWorld os) args0 rfl (by kernel_rfl) (by kernel_rfl) (by kernel_rfl)
      (OpenSpec.preRow_of_cond 8 hx (by kernel_rfl) (fun k hk => by cases hk) (by kernel_rfl) (laid_met os))) ?_
  intro W base args ds gs before hval hW _ _ hz hL _ _
  exact contract H enc W base args ds gs before hval hW hz hL

theorem said : Rows.NamesBackSaid :=
  OpenClaim.holds_of_cond 6 Tryd.f6 rfl rfl rfl rfl rfl rfl rfl ⟨rfl, rfl, rfl, rfl, rfl⟩ rfl rfl rfl rfl rfl (by kernel_rfl) Tryd.func6 (by kernel_rfl)
    (of_decide_eq_true (by kernel_rfl)) (by unfold Func.isWrapper; first | (rw [if_pos (by decide +kernel)]; kernel_rfl) | (rw [if_neg (by decide +kernel)]; exact ⟨rfl, rfl⟩))
    (fun os started H enc _ F => by rw [OpenClaim.pre_eq_preRow]; exact lifted os started H enc F)

theorem plain (f : FuncId) (fn : Func) (hf : Tryd.pinned.checked.prog.funcNamed "muniment/munimentlaw04.NamesBack" = some f) (hfn : Tryd.pinned.checked.prog.funcs[f]? = some fn) :
    true = Tryd.pinned.checked.prog.looks [] ∧ ∀ (j : Nat) t, fn.params[j]? = some t → Tryd.pinned.checked.prog.wantsStandIn t = false := by
  obtain rfl : f = 6 := Option.some.inj ((show Tryd.prog.funcNamed "muniment/munimentlaw04.NamesBack" = some 6 by kernel_rfl).symm.trans hf) |>.symm
  obtain rfl : fn = Tryd.f6 := (Option.some.inj (Tryd.func6.symm.trans hfn)).symm
  refine ⟨by kernel_rfl, fun j t ht => ?_⟩
  rw [Tryd.params6] at ht
  match j, ht with
  | 0, ht => cases ht; exact (show Tryd.prog.wantsStandIn 9 = false by kernel_rfl)
  | 1, ht => cases ht; exact (show Tryd.prog.wantsStandIn 9 = false by kernel_rfl)
  | 2, ht => cases ht; exact (show Tryd.prog.wantsStandIn 29 = false by kernel_rfl)
  | j + 3, ht => simp at ht

theorem card : Rows.NamesBackCardSaid :=
  Claim7.holds_tied_plain_at .later [] _ _ _ _ said (fun _ h => by cases h) (by kernel_rfl) (fun _ h => by cases h) namesBack_row_tie rfl ⟨rfl, rfl⟩ (by kernel_rfl) rfl plain (by kernel_rfl)
end Go.Proofs.YtofdhhemdoodaaaDoor.NmBackCard
