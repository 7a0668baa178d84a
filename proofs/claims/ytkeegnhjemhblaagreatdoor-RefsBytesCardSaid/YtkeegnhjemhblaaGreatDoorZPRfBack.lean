import Derived.Test.YtkeegnhjemhblaaGreatDoorZPRfAdd
import Derived.Test.YtkeegnhjemhblaaGreatDoorZPRfShelf
import Derived.Lib.BufferRead
import Derived.Lib.SlKeysI
import Derived.Laws.Tables
import Derived.Great.BuildSlice
import Derived.Maps.RangeWalk
import Derived.Laws.Bits64b
set_option linter.unusedSimpArgs false
set_option linter.unusedVariables false
/-
  The contracts of a book's New, Drop, Back.
-/
namespace Go.Proofs.YtkeegnhjemhblaaGreatDoor.Rf
open Go.RowKit Go.Maps Go.WideMaps
variable {X : Spect}

set_option maxRecDepth 100000 in
theorem new_any (w : World) :
    Calls Tryz.prog 11 #[] w fun e w' => ∃ g b, e = .returned (ptr g) ∧ BookAt noSp w.heap.size w' g b [] ∧ Below w.heap.size w w' := by
  have hmm := @run_makeMap Tryz.prog
  go_enter Tryz.func11, Tryz.ntmps11
  go_wp2
  go_ret
  have hs : (w.alloc (.map #[] 0)).heap.size = w.heap.size + 1 := by show (w.heap.push _).size = _; simp
  refine ⟨w.heap.size + 1, w.heap.size, rfl, ?_, ((Below.refl _ _).alloc (Nat.le_refl _) _).alloc (by rw [hs]; omega) _⟩
  refine ⟨?_, ?_, by simp, by omega, by simp, by simp, by omega, by omega, fun _ hp => False.elim hp⟩
  · have := (MapKept.heap_alloc (w.alloc (.map #[] 0)) (.cells #[.map (some w.heap.size)] 109)).1
    rwa [hs] at this
  · exact map_tight (enc := (Prod.fst : Value × List En → Value)) (m := []) ((World.ownsMap_made w Tryz.prog 9 Rv).alloc _) (by decide)

end Go.Proofs.YtkeegnhjemhblaaGreatDoor.Rf
/-
  The names of a book's branches, in order: plain, and the contract of Branches.
-/
namespace Go.Proofs.YtkeegnhjemhblaaGreatDoor.Rf
open Go.RowKit Go.Maps Go.WideMaps
variable {X : Spect}

/-- The keys of a map, in order. -/
def names {α : Type} (m : MV α) : List (List UInt8) := (m.map (·.1)).mergeSort (fun x y => decide (x ≤ y))
theorem names_perm {α : Type} (m : MV α) : (names m).Perm (m.map (·.1)) := List.mergeSort_perm _ _
theorem strKeys_toD {α : Type} (enc : α → Value) (m : MV α) : strKeys (toD enc m) = m.map (·.1) := by
  show (m.map fun p => ((Lit.string p.1, DataW.held (enc p.2)) : Lit × DataW Value)).map (fun p => strOf p.1) = _
  rw [List.map_map]; rfl
theorem names_of {α : Type} {enc : α → Value} {m : MV α} {ss : List (List UInt8)} (h : ss.Perm (strKeys (toD enc m))) : ss.mergeSort (fun x y => decide (x ≤ y)) = names m := by
  rw [strKeys_toD] at h
  exact mergeSort_of_perm h
theorem names_length {α : Type} (m : MV α) : (names m).length = m.length := by rw [(names_perm m).length_eq, List.length_map]
theorem names_get {α : Type} {m : MV α} {k : List UInt8} (h : k ∈ names m) : ∃ n, getM m k = some n := by
  have h1 := (names_perm m).mem_iff.1 h
  obtain ⟨p, hp, rfl⟩ := List.mem_map.1 h1
  rw [getM]
  cases hf : m.find? fun q => q.1 == p.1 with
  | some q => exact ⟨q.2, rfl⟩
  | none =>
    have := List.find?_eq_none.1 hf p hp
    simp at this
theorem names_map {α β : Type} (f : α → β) (m : MV α) : names (mapM' f m) = names m := by
  simp [names, mapM', List.map_map, Function.comp_def]

theorem one_size (w : World) (A : Obj) : (w.alloc A).heap.size = w.heap.size + 1 := by show (w.heap.push _).size = _; simp

set_option maxHeartbeats 2000000 in
set_option maxRecDepth 100000 in
theorem branches_any (B : Nat) (w : World) (g b : Nat) (Z : BM) (h : BookAt X B w g b Z) (ok : OkB (plainB Z)) :
    Calls Tryz.prog 47 #[ptr g] w fun e w' => ∃ v, e = .returned v ∧ w'.ownsRow w.heap.size 9 1 v (names (plainB Z)).length ((names (plainB Z)).map encStr) ∧ Below w.heap.size w w' := by
  have c0 : w.cell? ⟨g, 0, none⟩ = some (.map (some b)) := cell_of_heap h.book
  have hn : Z.length ≤ 64 := by rw [← plain_length]; exact ok.size
  have KE := Lib.hid (Tryz.keys (some b) w)
  have SK := Lib.hid (Tryz.sortedKeys b 1000000 _ _ w h.map (by rw [toD_size]; unfold maxLen; omega) (by rw [toD_size]; omega))
  clear h ok
  unfold ptr at *
  go_enter Tryz.func47, Tryz.ntmps47
  go_wp2_with (first
    | (go_at_call 110; refine KE.out.mono ?_; rintro e w2 ⟨rfl, rfl⟩)
    | (go_at_call 109; refine SK.out.mono ?_; rintro e w3 ⟨v, ss, rfl, hp, ho, _, hb⟩; rw [names_of hp] at ho; have HP := Lib.hid hp; have HO := Lib.hid ho; have HB := Lib.hid hb; clear hp ho hb))
  go_ret
  have e1 : names (plainB Z) = names Z := names_map _ _
  have hlen : (names Z).length = ss.length := by rw [← names_of HP.out, List.length_mergeSort]
  have hb0 : Below w.heap.size w (w.alloc (.cells #[.map (some b)] 107)) := (Below.refl _ _).alloc (Nat.le_refl _) _
  refine ⟨v, rfl, ?_, hb0.trans (HB.out.mono (by rw [one_size]; omega))⟩
  rw [e1, hlen]
  exact row_mono HO.out (by rw [one_size]; omega)
end Go.Proofs.YtkeegnhjemhblaaGreatDoor.Rf
/-
  A book's bytes: plain, and the contract of Encode.
-/
namespace Go.Proofs.YtkeegnhjemhblaaGreatDoor.Rf
open Go.RowKit Go.Maps Go.WideMaps
variable {X : Spect}

def encE (e : En) : List UInt8 := e.c ++ sh e.t.toNat
def encL (l : List En) : List UInt8 := l.flatMap encE
def encBr (K : BK) (k : List UInt8) : List UInt8 := putText k ++ sh ((getM K k).getD []).length ++ encL ((getM K k).getD [])
def payload (K : BK) : List UInt8 := sh K.length ++ (names K).flatMap (encBr K)
/-- A book's bytes. -/
def encodeB (K : BK) : List UInt8 := frameN (payload K)

theorem encE_len {e : En} (h : e.c.length = 32) : (encE e).length ≤ 42 := by
  rw [encE, List.length_append, h]; have := sh_length e.t.toNat; omega
theorem encL_len {l : List En} (h : ∀ e ∈ l, e.c.length = 32) : (encL l).length ≤ 42 * l.length := by
  induction l with
  | nil => simp [encL]
  | cons e r ih =>
    have h1 := encE_len (h e (by simp))
    have h2 := ih (fun x hx => h x (by simp [hx]))
    rw [encL, List.flatMap_cons, List.length_append, ← encL, List.length_cons]; omega
theorem encL_take {l : List En} {k : Nat} (h : k < l.length) : encL (l.take (k + 1)) = encL (l.take k) ++ encE l[k] := by
  rw [encL, encL, List.take_add_one, List.flatMap_append, List.getElem?_eq_getElem h]; simp

theorem cellsL_at {l : List En} (h : ∀ e ∈ l, e.c.length = 32) {j : Nat} {e : En} (hj : l[j]? = some e) {t : Nat} {v : Value} (hv : e.cells[t]? = some v) : (cellsL l)[j * 33 + t]? = some v := by
  obtain ⟨hjl, rfl⟩ := List.getElem?_eq_some_iff.1 hj
  have e1 : l = l.take j ++ (l[j] :: l.drop (j + 1)) := by rw [← List.drop_eq_getElem_cons hjl, List.take_append_drop]
  have h2 : (cellsL (l.take j)).length = 33 * j := by
    rw [cellsL_length (fun e he => h e (List.mem_of_mem_take he)), List.length_take, Nat.min_eq_left (by omega)]
  have ht := (List.getElem?_eq_some_iff.1 hv).1
  have e2 : cellsL l = cellsL (l.take j) ++ (l[j].cells ++ cellsL (l.drop (j + 1))) := by
    conv => lhs; rw [e1]
    rw [cellsL, List.flatMap_append, List.flatMap_cons]; rfl
  rw [e2, List.getElem?_append_right (by omega), h2, show j * 33 + t - 33 * j = t by omega, List.getElem?_append_left ht]
  exact hv
theorem cells_size {e : En} (h : e.c.length = 32) : e.cells.length = 33 := by simp [En.cells, Lib.byteCells_length, h]

/-- A snapshot of noughts. -/
def zer33 : Array Value := (List.replicate 32 (Value.int .u8 0) ++ [Value.int .i64 0]).toArray
/-- A fresh snapshot's variable that was written. -/
theorem store_new (w : World) (cs : Array Value) : ((w.alloc (.cells zer33 84)).setRow w.heap.size cs).heap[w.heap.size]? = some (.cells cs 84) ∧ Below w.heap.size w ((w.alloc (.cells zer33 84)).setRow w.heap.size cs) := by
  refine ⟨setRow_heap _ _ _ _ _ _ (MapKept.heap_alloc w _).1, ?_⟩
  refine ((Below.refl _ w).alloc (Nat.le_refl _) (.cells zer33 84)).trans ⟨rfl, rfl, rfl, by simp [World.setRow], fun k hk => ?_⟩
  exact setRow_other _ _ _ _ (by omega)

theorem arr32 : Tryz.prog.arrayLen 81 = 32 := by kernel_rfl
theorem und32 : Tryz.prog.underlying 81 = some (.array (Tryz.prog.arrayLen 81) (Tryz.prog.elem 81)) := by kernel_rfl
theorem elem32 : (Tryz.prog.info? (Tryz.prog.elem 81)).map (fun i => i.size) = some 1 := by kernel_rfl
theorem slice32 (w : World) (b : Nat) :
    (Instr.sliceAt 81 (.pointer (some ⟨b, 0, none⟩)) none none none).run Tryz.prog w = .ok (.slice (some ⟨b, 0, none⟩) 32 32) w := by
  rw [run_sliceAt_array_all (P := Tryz.prog) w 81 ⟨b, 0, none⟩ und32]
  obtain ⟨i, hi, hs⟩ := Option.map_eq_some_iff.1 elem32
  have hz : (sizeOf (Tryz.prog.elem 81)).run Tryz.prog w = .ok 1 w := by simp [sizeOf, typeInfo, hi, hs]
  rw [hz]
  simp only [Result.andThen, arr32, slicedAt]
  rw [if_neg (by omega), Addr.add_lit]

theorem rowS_slice {w : World} {B : Nat} {e : TypeId} {s : Nat} {v : Value} {n : Nat} {xs : List Value} (h : w.ownsRow B e s v n xs) : ∃ a cap, v = .slice a n cap := by
  obtain ⟨_, ⟨rfl, rfl⟩ | ⟨g, cap, cur, rfl, _⟩⟩ := h
  · exact ⟨_, _, rfl⟩
  · exact ⟨_, _, rfl⟩
theorem encBr_len {Z : BM} (ok : OkB (plainB Z)) {k : List UInt8} {p : Value × List En} (hk : getM Z k = some p) : (encBr (plainB Z) k).length ≤ 200000 := by
  obtain ⟨a1, a2, a3, a4⟩ := ok.row hk
  have e1 : (getM (plainB Z) k).getD [] = p.2 := by rw [plain_get, hk]; rfl
  have h1 := encL_len (fun e he => (a4 e he).1)
  have h2 := sh_length k.length; have h3 := sh_length p.2.length
  rw [encBr, e1, putText, List.length_append, List.length_append, List.length_append]; omega

theorem conv_row {w : World} {g o c : Nat} (l : List UInt8) (h : w.rangeAt g o (Lib.byteCells l)) : (convert 82 9 (.slice (some ⟨g, o, none⟩) l.length c)).run Tryz.prog w = .ok (.string ⟨l.toArray⟩) w :=
  run_convert_bytes_back w _ _ 5 ⟨g, o, none⟩ c l Tryz.underlying82 Tryz.underlying5 Tryz.underlying9 (fun j hj => by
    rw [Addr.add_lit]
    exact h j _ (by rw [Lib.byteCells, List.getElem?_map, List.getElem?_eq_getElem hj]; rfl))

set_option linter.unusedSimpArgs false in
set_option maxHeartbeats 4000000 in
set_option maxRecDepth 100000 in
theorem encode_any (B : Nat) (w : World) (g b : Nat) (Z : BM) (h : BookAt X B w g b Z) (ok : OkB (plainB Z)) :
    Calls Tryz.prog 17 #[ptr g] w fun e w' => e = .returned (.tuple #[.string ⟨(encodeB (plainB Z)).toArray⟩, .int .i64 0]) ∧ Below w.heap.size w w' := by
  have c0 : w.cell? ⟨g, 0, none⟩ = some (.map (some b)) := cell_of_heap h.book
  have H := Lib.hid h; have HOK := Lib.hid ok
  have hn : Z.length ≤ 64 := by rw [← plain_length]; exact ok.size
  have hlen := h.map.len Tryz.underlying107
  simp only [toD_size] at hlen
  have P0 := Lib.hid (put_any w ⟨#[]⟩ Z.length (by omega) (by decide))
  simp only [List.nil_append] at P0
  clear h ok
  unfold ptr at *
  go_enter Tryz.func17, Tryz.ntmps17
  go_wp2_with fail
  refine P0.out.mono ?_
  rintro e w1 ⟨rfl, hb1⟩
  have h1 := H.out.below hb1
  have c1 : w1.cell? ⟨g, 0, none⟩ = some (.map (some b)) := cell_of_heap h1.book
  have BR := Lib.hid (branches_any B w1 g b Z h1 HOK.out)
  have HB1 := Lib.hid hb1
  clear hlen c0 h1 hb1 P0
  unfold ptr at *
  go_wp2_with fail
  refine BR.out.mono ?_
  rintro e w2 ⟨nv, rfl, ho2, hb2⟩
  have HB2 := Lib.hid (HB1.out.trans (hb2.mono HB1.out.size))
  have H2 := Lib.hid (H.out.below HB2.out)
  obtain ⟨N, hN⟩ : ∃ N, N = names (plainB Z) := ⟨_, rfl⟩
  have HNL : Hid (N.length = Z.length) := Lib.hid (by rw [hN, names_length, plain_length])
  rw [← hN] at ho2
  have HN := Lib.hid hN
  have HO2 := Lib.hid ho2
  clear hb2 ho2 hN BR c1 HB1
  obtain ⟨na, nc, rfl⟩ := rowS_slice HO2.out
  obtain ⟨s0, hs0⟩ : ∃ s0, s0 = sh Z.length := ⟨_, rfl⟩
  have HS0 : Hid (s0 = sh Z.length) := Lib.hid hs0
  rw [← hs0]
  have hs0l : s0.length ≤ 10 := by rw [hs0]; exact sh_length _
  clear hs0
  go_wp2
  go_loopw [4, 22] (fun vs vi wr => ∃ i : Nat, i ≤ N.length ∧ vi = .int .i64 i ∧ vs = .string ⟨(s0 ++ (N.take i).flatMap (encBr (plainB Z))).toArray⟩ ∧ Below w2.heap.size w2 wr ∧ Hid ((s0 ++ (N.take i).flatMap (encBr (plainB Z))).length ≤ 20 + i * 200000)) (fun _ vi _ => N.length - (RowKit.intOf vi).toNat)
  case atStart => exact ⟨0, by omega, rfl, by simp, Below.refl _ _, Lib.hid (by simp; omega)⟩
  case round =>
    obtain ⟨i, hi, rfl, rfl, hbr, hbound⟩ := hrel
    obtain ⟨wo, hwo⟩ : ∃ wo, wo = wr := ⟨_, rfl⟩
    subst hwo
    by_cases hlt : (i : Int) < (N.length : Int)
    · have hi' : i < N.length := by omega
      have hi64 : i < 64 := by have := HNL.out; omega
      obtain ⟨gn, ncap, hnv, hgn, _, hcell⟩ := rowS_form HO2.out (by omega)
      injection hnv with e1 e2 e3
      subst e1 e3
      obtain ⟨k, hk⟩ : ∃ k, k = N[i] := ⟨_, rfl⟩
      have hck : wo.cell? ⟨gn, i, none⟩ = some (.string ⟨k.toArray⟩) := (World.cell?_of_block (a := ⟨gn, i, none⟩) (hbr.block gn hgn)).trans (hcell i _ (by rw [List.getElem?_map, List.getElem?_eq_getElem hi', ← hk]; rfl))
      have hkm : k ∈ names (plainB Z) := by rw [← HN.out, hk]; exact List.getElem_mem hi'
      obtain ⟨p, hp⟩ : ∃ p, getM Z k = some p := by
        obtain ⟨l, hl⟩ := names_get hkm
        rw [plain_get] at hl
        obtain ⟨p, hp, _⟩ := Option.map_eq_some_iff.1 hl
        exact ⟨p, hp⟩
      have hrb := H2.out.below hbr
      have c2 : wo.cell? ⟨g, 0, none⟩ = some (.map (some b)) := cell_of_heap hrb.book
      obtain ⟨a1, a2, a3, a4⟩ := HOK.out.row hp
      have hks : (⟨k.toArray⟩ : ByteArray).size ≤ 255 := a1
      have hlk := look_run1 Tryz.underlying107 zeroRow hrb.map ⟨k.toArray⟩ (by unfold maxLen; omega)
      rw [ba_data, hp] at hlk
      have hrow := hrb.row hp
      obtain ⟨pv, pl⟩ := p
      obtain ⟨m, hm⟩ : ∃ m, m = pl.length := ⟨_, rfl⟩
      dsimp only at a2 a3 a4 hrow hlk
      have hm0 : m ≠ 0 := by rw [hm]; simpa using a2
      rw [← hm] at hrow
      obtain ⟨gb, cap, rfl, hgb, _, hrc⟩ := rowS_form hrow hm0
      obtain ⟨s, hs⟩ : ∃ s, s = s0 ++ (N.take i).flatMap (encBr (plainB Z)) := ⟨_, rfl⟩
      have hsl : s.length ≤ 20 + i * 200000 := by rw [hs]; exact hbound.out
      have hst : Hid (s0 ++ (N.take (i + 1)).flatMap (encBr (plainB Z)) = s ++ (putText k ++ sh m ++ encL pl)) := Lib.hid (by
        rw [hs, List.take_add_one, List.flatMap_append, List.getElem?_eq_getElem hi', ← hk, Option.toList_some, List.flatMap_cons, List.flatMap_nil, List.append_nil, ← List.append_assoc, encBr, plain_get, hp, hm]; rfl)
      rw [← hs]
      have hbb := encBr_len HOK.out hp
      have HEB : Hid ((putText k ++ sh m ++ encL pl).length ≤ 200000) := Lib.hid (by
        have e : encBr (plainB Z) k = putText k ++ sh m ++ encL pl := by rw [encBr, plain_get, hp, hm]; rfl
        rw [← e]; exact hbb)
      have PT := Lib.hid (putText_any wo ⟨s.toArray⟩ ⟨k.toArray⟩ (by show s.length ≤ _; omega) (by omega))
      rw [ba_data, ba_data] at PT
      have hmb : m ≤ 4096 := by rw [hm]; exact a3
      have hptl : (putText k).length ≤ 265 := by rw [putText, List.length_append]; have := sh_length k.length; have : k.length ≤ 255 := a1; omega
      have PP := Lib.hid (fun w => put_any w ⟨(s ++ putText k).toArray⟩ m (by omega) (by show (s ++ putText k).length ≤ _; rw [List.length_append]; omega))
      rw [ba_data] at PP
      have HRC := Lib.hid hrc; have HM := Lib.hid hm; have HA4 := Lib.hid a4; have HBR := Lib.hid hbr; have HK := Lib.hid hk
      clear hbound hrow hrc a1 a2 a3 a4 hm hs hbb hcell hkm hp hrb hbr hk
      go_wp2_with fail
      refine PT.out.mono ?_
      rintro e w4 ⟨rfl, hb4⟩
      have HB4 := Lib.hid hb4
      clear hb4 PT
      go_wp2_with fail
      refine (PP.out _).mono ?_
      rintro e w5 ⟨rfl, hb5⟩
      have HB5 := Lib.hid (HB4.out.trans (hb5.mono HB4.out.size))
      clear hb5 PP
      go_wp2
      go_loopw [4, 41] (fun vs vj wq => ∃ (j : Nat) (Q : List UInt8), j ≤ m ∧ vj = .int .i64 j ∧ vs = .string ⟨Q.toArray⟩ ∧ Below wo.heap.size wo wq ∧ Hid (Q = s ++ (putText k ++ (sh m ++ encL (pl.take j))))) (fun _ vj _ => m - (RowKit.intOf vj).toNat)
      case atStart => exact ⟨0, s ++ (putText k ++ sh m), by omega, rfl, by simp, HB5.out, Lib.hid (by simp [encL])⟩
      case round =>
        obtain ⟨j, Q, hj, rfl, rfl, hbq, hQ⟩ := hrel
        have hQl : Q.length ≤ 14000000 := by
          have h1 := encL_len (l := pl.take j) (fun e he => (HA4.out e (List.mem_of_mem_take he)).1)
          have h2 := sh_length m
          rw [List.length_take] at h1
          rw [hQ.out, List.length_append, List.length_append, List.length_append]
          omega
        by_cases hjm : (j : Int) < (m : Int)
        · have hjl : j < pl.length := by rw [← HM.out]; omega
          obtain ⟨e, he⟩ : ∃ e, e = pl[j] := ⟨_, rfl⟩
          obtain ⟨ec, et0, et1⟩ := HA4.out e (by rw [he]; exact List.getElem_mem hjl)
          have hcs := cells_size ec
          have hrg : wr.rangeAt gb (j * 33) e.cells := fun t v hv => (World.cell?_of_block (a := ⟨gb, j * 33 + t, none⟩) (hbq.block gb hgb)).trans (HRC.out _ _ (cellsL_at (fun e he => (HA4.out e he).1) (by rw [List.getElem?_eq_getElem hjl, ← he]) hv))
          have HRG := Lib.hid hrg
          have hi33 : (Tryz.prog.info? 84).map (·.size) = some e.cells.length := by rw [hcs]; kernel_rfl
          have HI := Lib.hid hi33
          have HCS := Lib.hid hcs
          have HBQ := Lib.hid hbq
          clear hrg hi33 hcs hbq
          have HE := Lib.hid he
          have HONE : Hid (e.cells.toArray.all (·.oneCell') = true) := Lib.hid (Array.all_eq_true_iff_forall_mem.2 (fun u hu => row_one (l := [e]) u (by simpa [cellsL] using hu)))
          have HS2 : Hid (zer33.size = e.cells.toArray.size) := Lib.hid (by show 33 = _; rw [List.size_toArray]; exact HCS.out.symm)
          have HI2 : Hid ((Tryz.prog.info? 84).map (·.size) = some e.cells.toArray.size) := Lib.hid (by rw [List.size_toArray]; exact HI.out)
          clear he
          go_wp2_with (first
            | (refine wpList_load_mid rfl _ _ rfl gb (j * 33) rfl e.cells _ HRG.out Tryz.underlying84 rfl HI.out ?_)
            | (refine wpList_store_row rfl _ _ _ rfl wr.heap.size e.cells.toArray rfl rfl 84 zer33 (MapKept.heap_alloc wr (.cells zer33 84)).1 HI2.out HS2.out HONE.out ?_
               obtain ⟨hq6, hb6⟩ := store_new wr e.cells.toArray
               change wpList _ _ _ _ _ ((wr.alloc (.cells zer33 84)).setRow wr.heap.size e.cells.toArray)
               generalize (wr.alloc (.cells zer33 84)).setRow wr.heap.size e.cells.toArray = w6 at hq6 hb6 ⊢
               have HQ6 := Lib.hid hq6; have HB6 := Lib.hid hb6
               clear hq6 hb6))
          obtain ⟨tn, htn⟩ : ∃ tn : Nat, e.t = (tn : Int) := ⟨e.t.toNat, by omega⟩
          have hc32 : w6.cell? ⟨wr.heap.size, 32, none⟩ = some (.int .i64 (tn : Int)) := by
            rw [cell_of_heap HQ6.out, List.getElem?_toArray, En.cells, List.getElem?_append_right (by rw [Lib.byteCells_length, ec]; omega), Lib.byteCells_length, ec, htn]; rfl
          have hcvA : ∀ w' : World, w'.heap[wr.heap.size]? = some (.cells e.cells.toArray 84) → (convert 82 9 (.slice (some ⟨wr.heap.size, 0, none⟩) 32 32)).run Tryz.prog w' = .ok (.string ⟨e.c.toArray⟩) w' := fun w' hw' => by
            have := conv_row (w := w') (g := wr.heap.size) (o := 0) (c := 32) e.c (fun t v hv => by
              rw [Nat.zero_add]
              refine (cell_of_heap hw').trans ?_
              rw [List.getElem?_toArray, En.cells, List.getElem?_append_left (List.getElem?_eq_some_iff.1 hv).1]; exact hv)
            rwa [ec] at this
          have hcv := hcvA w6.drew HQ6.out
          have HCVA := Lib.hid hcvA
          clear hcvA
          have hsl := fun w => slice32 w wr.heap.size
          have PE := Lib.hid (fun w => put_any w ⟨(Q ++ e.c).toArray⟩ tn (by omega) (by show (Q ++ e.c).length ≤ _; rw [List.length_append, ec]; omega))
          have hecs : (⟨e.c.toArray⟩ : ByteArray).size = 32 := ec
          have hqs : (⟨Q.toArray⟩ : ByteArray).size = Q.length := rfl
          have hcat := cat_list ⟨Q.toArray⟩ e.c
          have hwt : (tn : Int) % 18446744073709551616 = (tn : Int) := by omega
          have hnl : Q.length ≤ 9223372036854775775 := by omega
          have HTN := Lib.hid htn; have HEC := Lib.hid ec
          clear htn ec et0 et1
          refine wp_region_held_drew (S := (fun w' : World => w'.cell? ⟨wr.heap.size, 32, none⟩ = some (.int .i64 (tn : Int)) ∧ (convert 82 9 (.slice (some ⟨wr.heap.size, 0, none⟩) 32 32)).run Tryz.prog w' = .ok (.string ⟨e.c.toArray⟩) w')) (by kernel_rfl) ⟨hc32, hcv⟩ (fun hHeld => ?_)
          refine wpAnyH_take (i := 0) (v := ?_) rfl (by kernel_rfl) (by kernel_rfl) (by kernel_rfl) (fun _ _ _ h => h) (Or.inl ⟨by rfl, ?hz0⟩) hHeld ?_
          case hz0 =>
            intro w hSw
            try dsimp only at hSw
            go_simp
            try with_reducible rfl
          try simp only [Act.put, List.setIfInBounds_toArray, List.set_cons_zero, List.set_cons_succ]
          refine wpAnyH_take (i := 1) (v := ?_) rfl (by kernel_rfl) (by kernel_rfl) (by kernel_rfl) (fun _ _ _ h => h) (Or.inl ⟨by rfl, ?hz1⟩) hHeld ?_
          case hz1 =>
            intro w hSw
            try dsimp only at hSw
            go_simp
            try with_reducible rfl
          try simp only [Act.put, List.setIfInBounds_toArray, List.set_cons_zero, List.set_cons_succ]
          refine wpAnyH_take (i := 2) (v := ?_) rfl (by kernel_rfl) (by kernel_rfl) (by kernel_rfl) (fun _ _ _ h => h) (Or.inl ⟨by rfl, ?hz2⟩) hHeld ?_
          case hz2 =>
            intro w hSw
            try dsimp only at hSw
            go_simp
            try with_reducible rfl
          try simp only [Act.put, List.setIfInBounds_toArray, List.set_cons_zero, List.set_cons_succ]
          refine wpAnyH_take (i := 3) (v := ?_) rfl (by kernel_rfl) (by kernel_rfl) (by kernel_rfl) (fun _ _ _ h => h) (Or.inl ⟨by rfl, ?hz3⟩) hHeld ?_
          case hz3 =>
            intro w hSw
            try dsimp only at hSw
            go_simp
            try with_reducible rfl
          try simp only [Act.put, List.setIfInBounds_toArray, List.set_cons_zero, List.set_cons_succ]
          refine wpAnyH_take (i := 4) (v := .string ⟨(Q ++ e.c).toArray⟩) rfl (by kernel_rfl) (by kernel_rfl) (by kernel_rfl) (fun _ _ _ h => h) (Or.inl ⟨by rfl, ?hz4⟩) hHeld ?_
          case hz4 =>
            intro w hSw
            clear hSw hHeld
            clear hcat
            go_simp
            rw [if_neg (by omega), cat_list]
          try simp only [Act.put, List.setIfInBounds_toArray, List.set_cons_zero, List.set_cons_succ]
          refine wpAnyH_take (i := 5) (v := ?_) rfl (by kernel_rfl) (by kernel_rfl) (by kernel_rfl) (fun _ _ _ h => h) (Or.inl ⟨by rfl, ?hz5⟩) hHeld ?_
          case hz5 =>
            intro w hSw
            try dsimp only at hSw
            go_simp
            try with_reducible rfl
          try simp only [Act.put, List.setIfInBounds_toArray, List.set_cons_zero, List.set_cons_succ]
          refine wpAnyH_take (i := 6) (v := ?_) rfl (by kernel_rfl) (by kernel_rfl) (by kernel_rfl) (fun _ _ _ h => h) (Or.inl ⟨by rfl, ?hz6⟩) hHeld ?_
          case hz6 =>
            intro w hSw
            try dsimp only at hSw
            go_simp
            try with_reducible rfl
          try simp only [Act.put, List.setIfInBounds_toArray, List.set_cons_zero, List.set_cons_succ]
          refine wpAnyH_take (i := 7) (v := ?_) rfl (by kernel_rfl) (by kernel_rfl) (by kernel_rfl) (fun _ _ _ h => h) (Or.inl ⟨by rfl, ?hz7⟩) hHeld ?_
          case hz7 =>
            intro w hSw
            try dsimp only at hSw
            go_simp
            try with_reducible rfl
          try simp only [Act.put, List.setIfInBounds_toArray, List.set_cons_zero, List.set_cons_succ]
          refine wpAnyH_ready (rs := [8]) (by kernel_rfl) (by simp) ?_
          refine AllReadyH.cons (o := { dst := some 53, op := .call { callee := .value (.func 65), args := #[.tmp 49, .tmp 52], argTypes := #[9, 73] }, type := 9, pos := _, after := _, guard := none }) rfl (fun K hK => ?_) AllReadyH.nil
          go_simp
          rw [show IntKind.u64.wrap (tn : Int) = (tn : Int) by rw [IntKind.wrap_u64]; omega]
          refine (PE.out _).mono ?_
          rintro e7 w7 ⟨rfl, hb7⟩
          have hc7 : w7.cell? ⟨wr.heap.size, 32, none⟩ = some (.int .i64 (tn : Int)) := (World.cell?_of_block (a := ⟨wr.heap.size, 32, none⟩) (hb7.block _ (lt_of_heap HQ6.out))).trans hc32
          have hcv7 := HCVA.out w7 ((hb7.block _ (lt_of_heap HQ6.out)).trans HQ6.out)
          go_wp2_with fail
          refine hK.out _ _ ⟨hc7, hcv7⟩ (fun hHeld2 => ?_)
          clear hK K hHeld
          try simp only [Act.put, List.setIfInBounds_toArray, List.set_cons_zero, List.set_cons_succ]
          refine wpAnyH_ready (rs := [9]) (by kernel_rfl) (by simp) ?_
          refine AllReadyH.cons (o := { dst := some 4, op := .assign (.tmp 53), type := 9, pos := _, after := _, guard := none }) rfl (fun K hK => ?_) AllReadyH.nil
          go_simp
          refine hK.out _ _ ⟨hc7, hcv7⟩ (fun hHeld3 => ?_)
          clear hK K hHeld2
          refine wpAnyH_done (by kernel_rfl) ?_ _
          clear hHeld3
          have HB7 := Lib.hid hb7
          clear hb7 hc7 hc32 hcv hcv7 hsl PE
          go_wp2
          go_roundw
          case rel =>
            refine ⟨j + 1, Q ++ (e.c ++ sh tn), by omega, by simp, rfl, ?_, Lib.hid ?_⟩
            · have b6 := HBQ.out.trans (HB6.out.mono HBQ.out.size)
              exact b6.trans ((((Below.refl _ w6).drew).trans HB7.out).mono b6.size)
            · rw [hQ.out, encL_take hjl, ← HE.out, encE, HTN.out]
              simp [List.append_assoc]
          case measure => simp [RowKit.intOf]; omega
        · obtain rfl : j = m := by omega
          have hQ2 : Hid (Q = s ++ (putText k ++ sh j ++ encL pl)) := Lib.hid (by rw [hQ.out, HM.out, List.take_length, List.append_assoc])
          have HBQ := Lib.hid hbq
          clear hbq
          go_wp2
          go_roundw
          case rel =>
            refine ⟨i + 1, by omega, by simp, ?_, HBR.out.trans (HBQ.out.mono HBR.out.size), Lib.hid ?_⟩
            · rw [hst.out, ← hQ2.out]
            · rw [hst.out, List.length_append]
              have := HEB.out
              rw [← HM.out] at *
              omega
          case measure => simp [RowKit.intOf]; omega
    · obtain rfl : i = N.length := by omega
      rw [List.take_length] at hbound ⊢
      have hFs : (⟨(s0 ++ N.flatMap (encBr (plainB Z))).toArray⟩ : ByteArray).size ≤ 67108864 := by
        show (s0 ++ N.flatMap (encBr (plainB Z))).length ≤ _
        have := hbound.out
        have := HNL.out
        omega
      have FR := Lib.hid (frame_any wo _ hFs)
      rw [ba_data] at FR
      have HBR := Lib.hid hbr
      clear hbr hFs
      go_wp2_with fail
      refine FR.out.mono ?_
      rintro e w7 ⟨rfl, hb7⟩
      have HB7 := Lib.hid hb7
      clear hb7
      go_wp2
      go_ret2
      refine ⟨?_, ?_⟩
      · rw [encodeB, payload, plain_length, ← HN.out, ← HS0.out]; rfl
      · have b1 := HB2.out.trans (HBR.out.mono HB2.out.size)
        exact b1.trans (HB7.out.mono b1.size)
end Go.Proofs.YtkeegnhjemhblaaGreatDoor.Rf
/-
  The contract of a book's Twin: another book that answers alike.
-/
namespace Go.Proofs.YtkeegnhjemhblaaGreatDoor.Rf
open Go.RowKit Go.Maps Go.WideMaps
variable {X : Spect}

/-- How far the twin has come: the keys that are left are none of its own; the others answer alike. -/
structure TwinSo (K T : BK) (left : Lit → Bool) : Prop where
  mem : ∀ p ∈ T, p ∈ K
  done : ∀ k, left (.string k) = false → getM T k = getM K k
  todo : ∀ k, left (.string k) = true → getM T k = none
theorem nodup_sub {α : Type} : ∀ {l m : List α}, l.Nodup → (∀ x ∈ l, x ∈ m) → l.length ≤ m.length
  | [], m, _, _ => by simp
  | a :: r, m, hn, hs => by
    classical
    obtain ⟨m1, m2, rfl⟩ := List.append_of_mem (hs a (by simp))
    rw [List.nodup_cons] at hn
    have := nodup_sub (l := r) (m := m1 ++ m2) hn.2 (fun x hx => by
      have h := hs x (by simp [hx])
      have hne : x ≠ a := fun e => hn.1 (e ▸ hx)
      simp only [List.mem_append, List.mem_cons] at h ⊢
      rcases h with h | h | h
      · exact .inl h
      · exact absurd h hne
      · exact .inr h)
    simp at this ⊢
    omega
theorem TwinSo.ok {K T : BK} {left : Lit → Bool} (h : TwinSo K T left) (ok : OkB K) (hn : (T.map (·.1)).Nodup) : OkB T := by
  refine ⟨?_, fun p hp => ok.keys p (h.mem p hp), fun p hp => ok.ne p (h.mem p hp), fun p hp => ok.len p (h.mem p hp), fun p hp => ok.ent p (h.mem p hp)⟩
  have := nodup_sub (m := K.map (·.1)) hn (fun x hx => by
    obtain ⟨p, hp, rfl⟩ := List.mem_map.1 hx
    exact List.mem_map.2 ⟨p, h.mem p hp, rfl⟩)
  simp at this
  have := ok.size
  omega

end Go.Proofs.YtkeegnhjemhblaaGreatDoor.Rf
/-
  The contracts of the reader where it finds what is asked for, the short numbers of one byte.
-/
namespace Go.Proofs.YtkeegnhjemhblaaGreatDoor.Rf
open Go.RowKit Go.Maps Go.WideMaps

set_option maxHeartbeats 2000000 in
set_option maxRecDepth 100000 in
theorem short_small (w : World) (b : UInt8) (r : List UInt8) (hb : b.toNat < 128) (hl : r.length ≤ 1099511627776) :
    Calls Tryz.prog 96 #[.string ⟨(b :: r).toArray⟩] w fun e w' => e = .returned (.tuple #[.int .u64 (b.toNat : Int), .int .i64 1]) ∧ w' = w := by
  have hs : (⟨(b :: r).toArray⟩ : ByteArray).size = r.length + 1 := rfl
  have h127 : bits .and .u8 (b.toNat : Int) 127 = (b.toNat : Int) := by
    have h1 := u8_and_nat b.toNat 127 (by omega) (by decide)
    rw [show (127 : Nat) = 2 ^ 7 - 1 from rfl, Nat.and_two_pow_sub_one_eq_mod, Nat.mod_eq_of_lt (by omega)] at h1
    exact h1
  have hor : bits .or .u64 0 (b.toNat : Int) = (b.toNat : Int) := by
    have h1 := bits_or_u64_nat 0 b.toNat (by decide) (by omega)
    simpa using h1
  have hidx : (⟨(b :: r).toArray⟩ : ByteArray)[0]'(by rw [hs]; omega) = b := rfl
  have hbi : (b.toNat : Int) < 128 := by omega
  have hwr : IntKind.u64.wrap (b.toNat : Int) = (b.toNat : Int) := by rw [IntKind.wrap_u64]; omega
  go_enter Tryz.func96, Tryz.ntmps96
  go_wp2
  go_loopw [2, 9] (fun v2 v9 wr => v2 = .int .u64 0 ∧ v9 = .int .i64 0 ∧ wr = w) (fun _ _ _ => 0)
  case atStart => exact ⟨rfl, rfl, rfl⟩
  case round =>
    obtain ⟨rfl, rfl, rfl⟩ := hrel
    go_wp2
    go_ret2
    exact ⟨rfl, rfl⟩

theorem ba_ext {A B : ByteArray} (h : A.data.toList = B.data.toList) : A = B := by
  cases A; cases B
  congr 1
  exact Array.toList_inj.1 h
/-- A piece of a text. -/
theorem extract_list (L : List UInt8) (i j : Nat) : (⟨L.toArray⟩ : ByteArray).extract i j = ⟨((L.drop i).take (j - i)).toArray⟩ := by
  apply ba_ext
  rw [Lib.extract_data]
theorem extract_rest (L : List UInt8) (i j : Nat) (h : L.length ≤ j) : (⟨L.toArray⟩ : ByteArray).extract i j = ⟨(L.drop i).toArray⟩ := by
  rw [extract_list, List.take_of_length_le (by rw [List.length_drop]; omega)]

abbrev RdT : TypeId := 171
/-- A reader: what is left. -/
def ReaderAt (w : World) (q : Nat) (L : List UInt8) : Prop := w.heap[q]? = some (.cells #[.string ⟨L.toArray⟩] RdT)

set_option maxHeartbeats 2000000 in
set_option maxRecDepth 100000 in
/-- A short number of one byte. -/
theorem uint_small (w : World) (q : Nat) (b : UInt8) (r : List UInt8) (hb : b.toNat < 128) (hl : r.length ≤ 1099511627776) (h : ReaderAt w q (b :: r)) :
    Calls Tryz.prog 34 #[ptr q] w fun e w' => e = .returned (.tuple #[.int .u64 (b.toNat : Int), .int .i64 0]) ∧ ReaderAt w' q r ∧ Turn [q] w w' := by
  have c0 : w.cell? ⟨q, 0, none⟩ = some (.string ⟨(b :: r).toArray⟩) := cell_of_heap h
  have f0 : w.frozen? ⟨q, 0, none⟩ = false := frozen_of_heap h
  have hq : q < w.heap.size := lt_of_heap h
  have SS := Lib.hid (fun w => short_small w b r hb hl)
  have hs : (⟨(b :: r).toArray⟩ : ByteArray).size = r.length + 1 := rfl
  unfold ptr
  go_enter Tryz.func34, Tryz.ntmps34
  go_wp2_with (first
    | (go_at_call 96; refine (SS.out _).mono ?_; rintro e w1 ⟨rfl, rfl⟩)
    | go_in)
  go_ret2
  rw [extract_rest _ _ _ (by simp)]
  refine ⟨rfl, ?_, ((Turn.refl [q] w).setCell (.inl (by simp)) _).alloc _⟩
  refine (Below.heap_alloc _ _ _ (by simpa [World.setCell] using hq)).trans ?_
  rw [setCell_heap _ _ _ _ _ _ h]; rfl
end Go.Proofs.YtkeegnhjemhblaaGreatDoor.Rf
/-
  The contracts of the reader's Take, Text, End, where they find what is asked for.
-/
namespace Go.Proofs.YtkeegnhjemhblaaGreatDoor.Rf
open Go.RowKit Go.Maps Go.WideMaps

/-- A reader went on, and two new variables were made. -/
theorem reader_on {w : World} {q : Nat} {L R : List UInt8} (h : ReaderAt w q L) (A C : Obj) : ReaderAt (((w.setCell ⟨q, 0, none⟩ (.string ⟨R.toArray⟩)).alloc A).alloc C) q R ∧ Turn [q] w (((w.setCell ⟨q, 0, none⟩ (.string ⟨R.toArray⟩)).alloc A).alloc C) := by
  have hq : q < w.heap.size := lt_of_heap h
  have hs : (w.setCell ⟨q, 0, none⟩ (.string ⟨R.toArray⟩)).heap.size = w.heap.size := by simp [World.setCell]
  refine ⟨?_, (((Turn.refl [q] w).setCell (.inl (by simp)) _).alloc _).alloc _⟩
  refine (Below.heap_alloc _ _ _ (by rw [one_size, hs]; omega)).trans ((Below.heap_alloc _ _ _ (by rw [hs]; exact hq)).trans ?_)
  rw [setCell_heap _ _ _ _ _ _ h]; rfl

set_option maxHeartbeats 4000000 in
set_option maxRecDepth 100000 in
theorem take_ok (w : World) (q : Nat) (L : List UInt8) (n : Nat) (hn : n ≤ L.length) (h : ReaderAt w q L) :
    Calls Tryz.prog 37 #[ptr q, .int .i64 n] w fun e w' => e = .returned (.tuple #[.string ⟨(L.take n).toArray⟩, .int .i64 0]) ∧ ReaderAt w' q (L.drop n) ∧ Turn [q] w w' := by
  have c0 : w.cell? ⟨q, 0, none⟩ = some (.string ⟨L.toArray⟩) := cell_of_heap h
  have f0 : w.frozen? ⟨q, 0, none⟩ = false := frozen_of_heap h
  have hq : q < w.heap.size := lt_of_heap h
  have hs : (⟨L.toArray⟩ : ByteArray).size = L.length := rfl
  have hmin : min (n : Int) (L.length : Int) = (n : Int) := by omega
  have hn' : (n : Int) ≤ (L.length : Int) := by omega
  have hn0 : ¬ (n : Int) < 0 := by omega
  have hn2 : ¬ (L.length : Int) < (n : Int) := by omega
  unfold ptr
  go_enter Tryz.func37, Tryz.ntmps37
  go_wp2
  go_ret2
  rw [extract_rest _ _ _ (Nat.le_refl _), extract_list]
  exact ⟨by simp, reader_on h _ _⟩

set_option maxHeartbeats 4000000 in
set_option maxRecDepth 100000 in
/-- A text whose length stands in one byte. -/
theorem text_small (w : World) (q : Nat) (b : UInt8) (r : List UInt8) (hb : b.toNat < 128) (hr : b.toNat ≤ r.length) (hl : r.length ≤ 1099511627776) (h : ReaderAt w q (b :: r)) :
    Calls Tryz.prog 35 #[ptr q, .int .i64 255] w fun e w' => e = .returned (.tuple #[.string ⟨(r.take b.toNat).toArray⟩, .int .i64 0]) ∧ ReaderAt w' q (r.drop b.toNat) ∧ Turn [q] w w' := by
  have c0 : w.cell? ⟨q, 0, none⟩ = some (.string ⟨(b :: r).toArray⟩) := cell_of_heap h
  have f0 : w.frozen? ⟨q, 0, none⟩ = false := frozen_of_heap h
  have hq : q < w.heap.size := lt_of_heap h
  have SS := Lib.hid (fun w => short_small w b r hb hl)
  have hs : (⟨(b :: r).toArray⟩ : ByteArray).size = r.length + 1 := rfl
  have hb1 : ¬ (255 : Int) < (b.toNat : Int) := by omega
  have hb2 : ¬ (r.length : Int) < (b.toNat : Int) := by omega
  have hb3 : (b.toNat : Int) ≤ (r.length : Int) := by omega
  have EX : Hid ((⟨(b :: r).toArray⟩ : ByteArray).extract 1 (1 + b.toNat) = ⟨(r.take b.toNat).toArray⟩) := Lib.hid (by rw [extract_list]; simp)
  have ER : Hid ((⟨(b :: r).toArray⟩ : ByteArray).extract (1 + b.toNat) (r.length + 1) = ⟨(r.drop b.toNat).toArray⟩) := Lib.hid (by rw [extract_rest _ _ _ (by simp), Nat.add_comm]; rfl)
  unfold ptr
  go_enter Tryz.func35, Tryz.ntmps35
  go_wp2_with (first
    | (go_at_call 96; refine (SS.out _).mono ?_; rintro e w1 ⟨rfl, rfl⟩)
    | go_in)
  go_ret2
  rw [EX.out, ER.out]
  exact ⟨rfl, reader_on h _ _⟩

set_option maxRecDepth 100000 in
theorem end_ok (w : World) (q : Nat) (h : ReaderAt w q []) :
    Calls Tryz.prog 39 #[ptr q] w fun e w' => e = .returned (.int .i64 0) ∧ w' = w := by
  have c0 : w.cell? ⟨q, 0, none⟩ = some (.string ⟨#[]⟩) := cell_of_heap h
  unfold ptr
  go_enter Tryz.func39, Tryz.ntmps39
  go_wp2
  go_ret
  exact ⟨rfl, rfl⟩

set_option maxRecDepth 100000 in
theorem reader_new (w : World) (L : List UInt8) :
    Calls Tryz.prog 32 #[.string ⟨L.toArray⟩] w fun e w' => e = .returned (ptr w.heap.size) ∧ w' = w.alloc (.cells #[.string ⟨L.toArray⟩] RdT) := by
  go_enter Tryz.func32, Tryz.ntmps32
  go_wp2
  go_ret
  exact ⟨rfl, rfl⟩
end Go.Proofs.YtkeegnhjemhblaaGreatDoor.Rf
