import Derived.Test.YthcjjekkjbidlaaDoorZPSrLook
import Derived.Test.YthcjjekkjbidlaaDoorZPStRead
import Derived.Test.YthcjjekkjbidlaaDoorZPStReg
import Derived.Test.YthcjjekkjbidlaaDoorZPStKit
import Derived.Test.YthcjjekkjbidlaaDoorZPStRef
set_option linter.unusedSimpArgs false
set_option linter.unusedVariables false
/-
  The contracts of find and above.
-/
namespace Go.Proofs.YthcjjekkjbidlaaDoor.Sr
open Go.RowKit Go.Maps Go.WideMaps Go.Proofs.YthcjjekkjbidlaaDoor.Rf Go.Proofs.YthcjjekkjbidlaaDoor.Nm Go.Proofs.YthcjjekkjbidlaaDoor.St

theorem splitL_chk {p : List UInt8} {x : List UInt8} (h : x ∈ splitL p) : chk x = true := by
  rw [splitL] at h
  cases hs : splitP p with
  | none => rw [hs] at h; cases h
  | some l =>
    rw [hs] at h
    change x ∈ l at h
    rw [splitP] at hs
    split at hs
    · obtain rfl := Option.some.inj hs; cases h
    · split at hs
      · next hc =>
        obtain rfl := Option.some.inj hs
        simp only [Bool.and_eq_true] at hc
        exact List.all_eq_true.1 hc.2 x h
      · cases hs
theorem chk_le {x : List UInt8} (h : chk x = true) : x.length ≤ 255 ∧ x ≠ [] := by
  refine ⟨?_, ?_⟩
  · simp only [chk, lenFine, Bool.and_eq_true, decide_eq_true_eq] at h
    exact h.1.1.1.2
  · rintro rfl
    exact absurd h (by decide)

theorem splitL_short (p : List UInt8) : (splitL p).length ≤ 1000000 := by
  rw [splitL]
  cases hs : splitP p with
  | none => simp
  | some l =>
    show l.length ≤ _
    rw [splitP] at hs
    split at hs
    · obtain rfl := Option.some.inj hs; simp
    · split at hs
      · next hc =>
        obtain rfl := Option.some.inj hs
        simp only [Bool.and_eq_true, decide_eq_true_eq] at hc
        rw [parts_count]
        have : (p.drop 1).count 47 ≤ p.count 47 := List.Sublist.count_le _ (List.drop_sublist 1 p)
        omega
      · cases hs
/-- Names in a row of one's own. -/
structure PathAt (B : Nat) (w : World) (v : Value) (l : PN) : Prop where
  row : w.ownsRow B 9 1 v l.length (l.map sv)
  len : ∀ x ∈ l, x.length ≤ maxLen
theorem PathAt.strs {B : Nat} {w : World} {v : Value} {l : PN} (h : PathAt B w v l) : StrsAt w v l := by
  obtain ⟨a, c, rfl⟩ := rowS_slice h.row
  have hm : l.length ≤ maxLen := by
    rcases h.row with ⟨_, ⟨_, h0⟩ | ⟨g, cap, cur, _, _, _, h1, h2, _⟩⟩
    · rw [h0]; exact Nat.zero_le _
    · exact Nat.le_trans h1 h2
  refine ⟨a, c, rfl, hm, h.len, fun hne => ?_⟩
  obtain ⟨g, cap, hv, hg, _, _, hc⟩ := rowS_form h.row (by intro h0; exact hne (List.length_eq_zero_iff.1 h0))
  injection hv with e1 e2 e3
  subst e1
  refine ⟨g, 0, rfl, hg, fun i p hp => ?_⟩
  rw [Nat.zero_add]
  exact hc i _ (by rw [List.getElem?_map, hp]; rfl)
theorem PathAt.below {B : Nat} {w w' : World} {v : Value} {l : PN} (h : PathAt B w v l) (hb : Below w.heap.size w w') : PathAt B w' v l :=
  ⟨rowS_kept h.row (fun x _ hl => hb.block x hl), h.len⟩
theorem PathAt.kept {B : Nat} {w w' : World} {v : Value} {l : PN} (h : PathAt B w v l) (hb : ∀ x ∈ ob v, w'.heap[x]? = w.heap[x]?) : PathAt B w' v l :=
  ⟨rowS_kept h.row (fun x hx _ => hb x hx), h.len⟩
/-- Its first names. -/
theorem PathAt.front {B : Nat} {w : World} {v : Value} {l : PN} (h : PathAt B w v l) (hne : l ≠ []) : ∃ g c, v = .slice (some ⟨g, 0, none⟩) l.length c ∧ l.length ≤ c ∧ c ≤ maxLen ∧ StrsAt w (.slice (some ⟨g, 0, none⟩) (l.length - 1) c) l.dropLast := by
  have hs := h.strs
  have h0 : l.length ≠ 0 := fun h0 => hne (List.length_eq_zero_iff.1 h0)
  obtain ⟨g, cap, hv, hg, _, hc, hcell⟩ := rowS_form h.row h0
  have hcm : cap ≤ maxLen := by
    rcases h.row with ⟨_, ⟨_, h0'⟩ | ⟨g', cap', cur, hv', _, _, h1, h2, _⟩⟩
    · exact absurd h0' h0
    · rw [hv] at hv'; injection hv' with e1 e2 e3; rw [e3]; exact h2
  refine ⟨g, cap, hv, hc, hcm, some ⟨g, 0, none⟩, cap, by rw [List.length_dropLast], by rw [List.length_dropLast]; omega, fun x hx => h.len x (List.dropLast_subset _ hx), fun _ => ⟨g, 0, rfl, hg, fun i p hp => ?_⟩⟩
  rw [Nat.zero_add]
  refine hcell i _ ?_
  have hi := (List.getElem?_eq_some_iff.1 hp).1
  rw [List.length_dropLast] at hi
  rw [List.getElem?_map]
  rw [List.getElem?_dropLast] at hp
  rw [if_pos hi] at hp
  rw [hp]; rfl

/-- What find answers. -/
def findE (p : List UInt8) (L : List TE) : Int := if splitE p = 0 then (if (getT (splitL p) L).isSome then 0 else 6) else 10
def findN (p : List UInt8) (L : List TE) : Option TE := if splitE p = 0 then getT (splitL p) L else none
def FindPost (w : World) (p : List UInt8) (L : List TE) (e : Ending) (w' : World) : Prop :=
  ∃ v, e = .returned (.tuple #[ptrO ((findN p L).map TE.p), v, .int .i64 (findE p L)]) ∧ PathAt w.heap.size w' v (splitL p) ∧ Below w.heap.size w w'
theorem splitE_cases (p : List UInt8) : splitE p = 0 ∨ (splitE p = 10 ∧ splitL p = []) := by
  rw [splitE, splitL]
  cases splitP p
  · exact .inr ⟨rfl, rfl⟩
  · exact .inl rfl
set_option linter.unusedSimpArgs false in
set_option maxHeartbeats 4000000 in
set_option maxRecDepth 100000 in
theorem find_any (B : Nat) (w : World) (r : Nat) (T : Tr) (p : List UInt8) (hp : p.length ≤ 4611686018427387904) (h : TreeAt B w r T) :
    Calls Tryd.prog 39 #[ptr r, .string ⟨p.toArray⟩] w (FindPost w p T.L) := by
  have SP := split_any ⟨p.toArray⟩ w hp
  rw [show (⟨p.toArray⟩ : ByteArray).data.toList = p from by simp] at SP
  have SP := Lib.hid SP
  have H := Lib.hid h
  clear h
  unfold ptr at *
  go_enter Tryd.func39, Tryd.ntmps39
  go_wp2_with fail
  refine SP.out.mono ?_
  rintro ex w1 ⟨v, rfl, hr1, hb1⟩
  have HP : Hid (PathAt w.heap.size w1 v (splitL p)) := Lib.hid ⟨hr1, fun x hx => by have := (chk_le (splitL_chk hx)).1; unfold maxLen; omega⟩
  have HB := Lib.hid hb1
  clear hr1 hb1 SP
  rcases splitE_cases p with h0 | ⟨h0, hl⟩
  · have HN : Hid (findN p T.L = getT (splitL p) T.L) := Lib.hid (by rw [findN, if_pos h0])
    have HE : Hid (findE p T.L = if (getT (splitL p) T.L).isSome then 0 else 6) := Lib.hid (by rw [findE, if_pos h0])
    have LK := look_any B w1 r T v (splitL p) HP.out.strs (H.out.below HB.out)
    obtain ⟨a, c, rfl⟩ := rowS_slice HP.out.row
    rw [h0]
    cases hg : getT (splitL p) T.L with
    | none =>
      rw [hg] at LK
      have LK := Lib.hid LK
      unfold ptr ptrO at LK
      have HN2 : Hid (findN p T.L = none) := Lib.hid (HN.out.trans hg)
      have HE2 : Hid (findE p T.L = 6) := Lib.hid (by rw [HE.out, hg]; rfl)
      clear hg HN HE h0
      go_wp2_with fail
      refine LK.out.mono ?_
      rintro ex w2 ⟨rfl, hw2⟩
      obtain rfl : w1 = w2 := hw2.symm
      go_wp2
      go_ret3
      refine ⟨_, by rw [HN2.out, HE2.out]; rfl, HP.out, HB.out⟩
    | some e =>
      rw [hg] at LK
      have LK := Lib.hid LK
      unfold ptr ptrO at LK
      have HN2 : Hid (findN p T.L = some e) := Lib.hid (HN.out.trans hg)
      have HE2 : Hid (findE p T.L = 0) := Lib.hid (by rw [HE.out, hg]; rfl)
      clear hg HN HE h0
      go_wp2_with fail
      refine LK.out.mono ?_
      rintro ex w2 ⟨rfl, hw2⟩
      obtain rfl : w1 = w2 := hw2.symm
      go_wp2
      go_ret3
      refine ⟨_, by rw [HN2.out, HE2.out]; rfl, HP.out, HB.out⟩
  · have HN : Hid (findN p T.L = none) := Lib.hid (by rw [findN, if_neg (by rw [h0]; decide)])
    have HE : Hid (findE p T.L = 10) := Lib.hid (by rw [findE, if_neg (by rw [h0]; decide)])
    rw [h0]
    clear h0
    go_wp2
    go_ret3
    refine ⟨_, by rw [HN.out, HE.out]; rfl, ⟨by rw [hl]; exact ⟨rfl, .inl ⟨rfl, rfl⟩⟩, by rw [hl]; simp⟩, HB.out⟩
def abvE (l : PN) (L : List TE) : Int := match getT l.dropLast L with | none => 6 | some u => if u.at_.node = 2 then 0 else 11
def abvN (l : PN) (L : List TE) : Option TE := match getT l.dropLast L with | none => none | some u => if u.at_.node = 2 then some u else none
set_option linter.unusedSimpArgs false in
set_option maxHeartbeats 4000000 in
set_option maxRecDepth 100000 in
theorem above_any (B B' : Nat) (w : World) (r : Nat) (T : Tr) (v : Value) (l : PN) (hne : l ≠ []) (hl : l.length ≤ 1000000) (hv : PathAt B' w v l) (h : TreeAt B w r T) :
    Calls Tryd.prog 41 #[ptr r, v] w fun e w' => e = .returned (.tuple #[ptrO ((abvN l T.L).map TE.p), .int .i64 (abvE l T.L)]) ∧ w' = w := by
  obtain ⟨g, c, rfl, hlc, hcm, hs⟩ := hv.front hne
  have LK := look_any B w r T _ l.dropLast hs h
  have hn0 : (1 : Int) ≤ (l.length : Int) := by have := List.length_pos_iff.2 hne; omega
  have hsub : ((l.length - 1 : Nat) : Int) = (l.length : Int) - 1 := by omega
  rw [abvN, abvE]
  unfold ptr ptrO at *
  unfold maxLen at hcm
  have H := Lib.hid h
  have hi1 : (l.length : Int) - 1 ≤ (c : Int) := by omega
  have hi0 : (0 : Int) ≤ (l.length : Int) - 1 := by omega
  have hwr : IntKind.i64.wrap ((l.length : Int) - 1) = (l.length : Int) - 1 := by rw [IntKind.wrap_i64]; omega
  have htn : ((l.length : Int) - 1).toNat = l.length - 1 := by omega
  cases hg : getT l.dropLast T.L with
  | none =>
    rw [hg] at LK
    have LK := Lib.hid LK
    clear hg hs hv h
    go_enter Tryd.func41, Tryd.ntmps41
    go_wp2_with fail
    refine LK.out.mono ?_
    rintro ex w2 ⟨rfl, hw2⟩
    obtain rfl : w = w2 := hw2.symm
    go_wp2
    go_ret2
    exact ⟨rfl, rfl⟩
  | some u =>
    rw [hg] at LK
    have LK := Lib.hid LK
    obtain ⟨hu, _⟩ := getT_nm hg
    have c2 : w.cell? ⟨u.p, 2, none⟩ = some (.int .u8 (u.at_.node : Int)) := cell_of_heap (h.node u hu).cells
    clear hg hs hv h
    dsimp only
    by_cases h2 : u.at_.node = 2
    · rw [if_pos h2, if_pos h2]
      rw [h2] at c2
      go_enter Tryd.func41, Tryd.ntmps41
      go_wp2_with fail
      refine LK.out.mono ?_
      rintro ex w2 ⟨rfl, hw2⟩
      obtain rfl : w = w2 := hw2.symm
      go_wp2
      go_ret2
      exact ⟨rfl, rfl⟩
    · rw [if_neg h2, if_neg h2]
      have hb : (((u.at_.node : Nat) : Int) == 2) = false := by rw [beq_eq_false_iff_ne]; omega
      have hb2 : (((u.at_.node : Nat) : Int) != 2) = true := by rw [bne, hb]; rfl
      go_enter Tryd.func41, Tryd.ntmps41
      go_wp2_with fail
      refine LK.out.mono ?_
      rintro ex w2 ⟨rfl, hw2⟩
      obtain rfl : w = w2 := hw2.symm
      go_wp2
      go_ret2
      exact ⟨rfl, rfl⟩
end Go.Proofs.YthcjjekkjbidlaaDoor.Sr
