import Derived.Test.YtnkapojbijbbaaaGreatDoorZPSrHapp
import Derived.Test.YtnkapojbijbbaaaGreatDoorZPStIn
import Derived.Test.YtnkapojbijbbaaaGreatDoorZPSrCheck
import Derived.Test.YtnkapojbijbbaaaGreatDoorZPSrIns
import Derived.Test.YtnkapojbijbbaaaGreatDoorZPSrSort
import Derived.Test.YtnkapojbijbbaaaGreatDoorZPStStrs
import Derived.Test.YtnkapojbijbbaaaGreatDoorZPNmSplitCore
set_option linter.unusedSimpArgs false
set_option linter.unusedVariables false
set_option maxHeartbeats 8000000
set_option maxRecDepth 100000
namespace Go.Proofs.YtnkapojbijbbaaaGreatDoor.Sr
open Go.RowKit Go.Maps Go.WideMaps Rf Go.Proofs.YtnkapojbijbbaaaGreatDoor.Nm St
def hapX (k : Int) (p m : List UInt8) (t : Nat) : Stp :=
 ⟨if k = 0 then 0 else if k = 1 then 1 else if k = 2 then 3 else if k = 3 then 7 else if k = 4 then 8 else if k = 5 then 4 else 10, 0, p, m, modeA (t % 512), .slice none 0 0⟩
def HapIs (B : Nat) (w : World) (r : Nat) (T : Tr) (x : Stp) (e : Ending) (w' : World) : Prop := e = .returned (.bool true) ∧ ∃ T', CallT B w r T w' T' ∧ RunIs x T T'
theorem happens_is (B : Nat) (w : World) (r : Nat) (T : Tr) (k : Int) (p m : List UInt8) (t : Nat) (ht : t < 4294967296) (hp : p.length ≤ 4611686018427387904) (hm : m.length ≤ 4611686018427387904) (n : Nat) (hn : n ≤ 1000) (hG : Good n T) (hB : B ≤ w.heap.size) (h : TreeAt B w r T) :
 Calls Tryz.prog 8 #[ptr r, .agg #[.int .i64 k, .string ⟨p.toArray⟩, .string ⟨m.toArray⟩, .int .u32 (t : Int)]] w (HapIs B w r T (hapX k p m t)) := by
 obtain ⟨W, hW⟩ : ∃ W, W = w.alloc (.cells #[.int .i64 k, .string ⟨p.toArray⟩, .string ⟨m.toArray⟩, .int .u32 (t : Int)] 36) := ⟨_, rfl⟩
 have hb0 : Below w.heap.size w W := by rw [hW]; exact (Below.refl _ _).alloc (Nat.le_refl _) _
 have H0 := Lib.hid (h.below hb0)
 have HB0 := Lib.hid hb0; have HG := Lib.hid hG; have HW := Lib.hid hW; have HBS := Lib.hid (Nat.le_trans hB hb0.size)
 have hmost : T.most < 18446744073709551615 := by have := hG.most; omega
 have HRE : Hid (∀ w' T', CallT B W r T w' T' → RunIs (hapX k p m t) T T' → HapIs B w r T (hapX k p m t) (.returned (.bool true)) w') := Lib.hid (fun w' T' hc hi => ⟨rfl, T', ⟨hc.tree, (Turn.of_below hb0).trans hc.turn (fun y hy => .inl hy), fun b hb => (hc.own b hb).imp id (fun h => Nat.le_trans hb0.size h), hc.ch⟩, hi⟩)
 have hr : IntKind.u32.wrap ((t : Int) % 512) = ((t % 512 : Nat) : Int) := by rw [IntKind.wrap_u32]; omega
 have ht2 : ((t % 512 : Nat) : Int) = (t : Int) % 512 := by omega
 clear h hb0 hG hB
 by_cases e0 : k = 0
 · subst e0
   have CL := Lib.hid (folder_any B W r T p (modeA (t % 512)) (.slice none 0 0) hp (mode_xs _ _) (by simp [modeA, xob]) hmost H0.out)
   unfold ptr at *
   go_enter Tryz.func8, Tryz.ntmps8
   go_wp2_with fail
   rw [← ht2]
   rw [← HW.out]
   refine CL.out.mono ?_
   rintro ex w1 ⟨W2, hbW, htW, hpost⟩
   obtain ⟨rfl, T', hct, hno, hyes⟩ := hpost.call H0.out hbW (.inl (by simp)) (splitL_16 p)
   have HRI : Hid (RunIs (hapX 0 p m t) T T') := Lib.hid (by
    show if addE p [] (asFold (modeA (t % 512))) T ≠ 0 then T' = T else AddIs p [] (asFold (modeA (t % 512))) T T'
    split
    · next h => exact hno h
    · next h => exact hyes (Classical.not_not.1 h))
   have HCT := Lib.hid hct
   clear hpost hct hbW htW hno hyes
   clear CL
   go_wp2
   go_ret
   exact HRE.out _ _ HCT.out HRI.out
 have b0 : ((k : Int) == 0) = false := by rw [beq_eq_false_iff_ne]; exact e0
 by_cases e1 : k = 1
 · subst e1
   have CL := Lib.hid (file_any B W r T p m (modeA (t % 512)) (.slice none 0 0) hp hm (mode_xs _ _) (by simp [modeA, xob]) hmost H0.out)
   unfold ptr at *
   go_enter Tryz.func8, Tryz.ntmps8
   go_wp2_with fail
   rw [← ht2]
   rw [← HW.out]
   refine CL.out.mono ?_
   rintro ex w1 ⟨W2, hbW, htW, hpost⟩
   obtain ⟨rfl, T', hct, hno, hyes⟩ := hpost.call H0.out hbW (by by_cases hb : m.length ≤ 1048576; exact .inl hb; exact .inr (addE_big (by omega))) (splitL_16 p)
   have HRI : Hid (RunIs (hapX 1 p m t) T T') := Lib.hid (by
    show if addE p m (asFile (modeA (t % 512))) T ≠ 0 then T' = T else AddIs p m (asFile (modeA (t % 512))) T T'
    split
    · next h => exact hno h
    · next h => exact hyes (Classical.not_not.1 h))
   have HCT := Lib.hid hct
   clear hpost hct hbW htW hno hyes
   clear CL
   go_wp2
   go_ret
   exact HRE.out _ _ HCT.out HRI.out
 have b1 : ((k : Int) == 1) = false := by rw [beq_eq_false_iff_ne]; exact e1
 by_cases e2 : k = 2
 · subst e2
   have CL := Lib.hid (write_any B W r T p m hp hm H0.out)
   unfold ptr at *
   go_enter Tryz.func8, Tryz.ntmps8
   go_wp2_with fail
   rw [← HW.out]
   refine CL.out.mono ?_
   rintro ex w1 ⟨rfl, ht1, hu1⟩
   have HCT := Lib.hid (write_call H0.out HG.out ht1 hu1)
   have HRI : Hid (RunIs (hapX 2 p m t) T (writeT p m T)) := Lib.hid (by
    show if writeE p m T ≠ 0 then writeT p m T = T else writeT p m T = writeT p m T
    split
    · next h => exact if_neg h
    · rfl)
   clear ht1 hu1
   clear CL
   go_wp2
   go_ret
   exact HRE.out _ _ HCT.out HRI.out
 have b2 : ((k : Int) == 2) = false := by rw [beq_eq_false_iff_ne]; exact e2
 by_cases e3 : k = 3
 · subst e3
   have CL := Lib.hid (move_any B W r T p m hp hm HG.out.deep (by have := HG.out.len; omega) H0.out)
   unfold ptr at *
   go_enter Tryz.func8, Tryz.ntmps8
   go_wp2_with fail
   rw [← HW.out]
   refine CL.out.mono ?_
   rintro ex w1 ⟨rfl, hct⟩
   have  HCT := Lib.hid hct
   have HRI : Hid (RunIs (hapX 3 p m t) T (moveTr p m T)) := Lib.hid (by
    show if moveE p m T ≠ 0 then moveTr p m T = T else moveTr p m T = moveTr p m T
    split
    · next h => exact moveTr_no h
    · rfl)
   clear hct
   clear CL
   go_wp2
   go_ret
   exact HRE.out _ _ HCT.out HRI.out
 have b3 : ((k : Int) == 3) = false := by rw [beq_eq_false_iff_ne]; exact e3
 by_cases e4 : k = 4
 · subst e4
   have CL := Lib.hid (drop_any B W r T p hp H0.out)
   unfold ptr at *
   go_enter Tryz.func8, Tryz.ntmps8
   go_wp2_with fail
   rw [← HW.out]
   refine CL.out.mono ?_
   rintro ex w1 ⟨rfl, hct⟩
   have  HCT := Lib.hid hct
   have HRI : Hid (RunIs (hapX 4 p m t) T (dropTr p T)) := Lib.hid (by
    show if dropE p T ≠ 0 then dropTr p T = T else dropTr p T = dropTr p T
    split
    · next h => exact dropTr_no h
    · rfl)
   clear hct
   clear CL
   go_wp2
   go_ret
   exact HRE.out _ _ HCT.out HRI.out
 have b4 : ((k : Int) == 4) = false := by rw [beq_eq_false_iff_ne]; exact e4
 by_cases e5 : k = 5
 · subst e5
   have CL := Lib.hid (attr_any B W r T p hp (modeA (t % 512)) (.slice none 0 0) (mode_xs _ _) HG.out.data HBS.out H0.out)
   unfold ptr at *
   go_enter Tryz.func8, Tryz.ntmps8
   go_wp2_with fail
   rw [← ht2]
   rw [← HW.out]
   refine CL.out.mono ?_
   rintro ex w1 ⟨rfl, T', hct, hno, hyes⟩
   have HRI : Hid (RunIs (hapX 5 p m t) T T') := Lib.hid (by
    show if attrE p (modeA (t % 512)) T ≠ 0 then T' = T else SetIs p (fun n => asOf (modeA (t % 512)) n) T T'
    split
    · next h => exact hno h
    · next h => exact hyes (Classical.not_not.1 h))
   have HCT := Lib.hid hct
   clear hct
   clear CL
   go_wp2
   go_ret
   exact HRE.out _ _ HCT.out HRI.out
 have b5 : ((k : Int) == 5) = false := by rw [beq_eq_false_iff_ne]; exact e5
 have HRI : Hid (RunIs (hapX k p m t) T T) := Lib.hid (by
  rw [hapX, if_neg e0, if_neg e1, if_neg e2, if_neg e3, if_neg e4, if_neg e5]
  show if (0 : Int) ≠ 0 then T = T else T = T
  rw [if_neg (by decide)])
 unfold ptr at *
 go_enter Tryz.func8, Tryz.ntmps8
 go_wp2
 go_ret
 have HX := HRE.out W T (.same H0.out (Below.refl _ _)) HRI.out
 rw [HW.out] at HX
 exact HX
end Go.Proofs.YtnkapojbijbbaaaGreatDoor.Sr
namespace Go.Proofs.YtnkapojbijbbaaaGreatDoor.Sr
open Go.RowKit Go.Maps Go.WideMaps Rf Go.Proofs.YtnkapojbijbbaaaGreatDoor.Nm St
structure RN where
 nm : PN
 ino : Nat
 tick : Int
 at_ : XA
 data : List UInt8
 nv : Value
 xv : Value
def RN.te (n : RN) : TE := ⟨n.nm, n.ino, n.tick, n.at_, n.data, 0, none, .slice none 0 0⟩
structure GoodF (k : Nat) (F : Tr) : Prop where
 srt : SrtT F.L
 root : ∃ e, getT [] F.L = some e
 par : ∀ e ∈ F.L, ∀ n s, e.nm = n ++ [s] → ∃ u ∈ F.L, u.nm = n ∧ u.at_.node = 2
 deep : ∀ e ∈ F.L, e.nm.length ≤ 16
 names : ∀ e ∈ F.L, ∀ s ∈ e.nm, chk s = true
 att : ∀ e ∈ F.L, chkA e.at_ = true
 data : ∀ e ∈ F.L, e.data.length ≤ 1048576
 most : F.most ≤ k + 1
 len : F.L.length ≤ k + 1
theorem pre_at {a b : PN} : a.isPrefixOf b = true ↔ a.length ≤ b.length ∧ ∀ (i : Nat) x, a[i]? = some x → b[i]? = some x := by
 rw [List.isPrefixOf_iff_prefix]
 constructor
 · rintro ⟨t, rfl⟩
   refine ⟨by simp, fun i x hx => ?_⟩
   rw [List.getElem?_append_left (List.getElem?_eq_some_iff.1 hx).1]; exact hx
 · rintro ⟨hl, h⟩
   rw [List.prefix_iff_eq_take]
   refine List.ext_getElem? (fun i => ?_)
   rw [List.getElem?_take]
   by_cases hi : i < a.length
   · rw [if_pos hi]
     have := h i a[i] (List.getElem?_eq_getElem hi)
     rw [this, List.getElem?_eq_getElem hi]
   · rw [if_neg hi, List.getElem?_eq_none (by omega)]
theorem pre_len {a b : PN} (h : a.length = b.length) : a.isPrefixOf b = decide (b = a) := by
 rw [Bool.eq_iff_iff, List.isPrefixOf_iff_prefix, decide_eq_true_eq]
 constructor
 · intro hp; exact (hp.eq_of_length h).symm
 · rintro rfl; exact List.prefix_refl _
theorem ahd_drop {a b : PN} {i : Nat} (h : a.take i = b.take i) : ahd a b = ahd (a.drop i) (b.drop i) := by
 conv => lhs; rw [← List.take_append_drop i a, ← List.take_append_drop i b, h]
 rw [ahd_pre]
def atI (l : PN) (L : List TE) : Int := match L.findIdx? (fun e => decide (e.nm = l)) with | some i => (i : Int) | none => -1
theorem atI_none {l : PN} {L : List TE} : atI l L = -1 ↔ getT l L = none := by
 rw [atI, getT]
 cases h : L.findIdx? (fun e => decide (e.nm = l)) with
 | none =>
   rw [List.findIdx?_eq_none_iff] at h
   simp only [true_iff]
   rw [List.find?_eq_none]
   intro x hx; simp [h x hx]
 | some i =>
   constructor
   · intro h1; dsimp only at h1; omega
   · intro h1
     rw [List.find?_eq_none] at h1
     obtain ⟨hl, hp, _⟩ := List.findIdx?_eq_some_iff_getElem.1 h
     exact absurd hp (by have := h1 _ (List.getElem_mem hl); simpa using this)
theorem atI_some {l : PN} {L : List TE} {i : Nat} {e : TE} (hs : SrtT L) (he : L[i]? = some e) (hn : e.nm = l) : atI l L = (i : Int) ∧ getT l L = some e := by
 have hm := List.mem_of_getElem? he
 have hg := getT_of hs hm
 rw [hn] at hg
 refine ⟨?_, hg⟩
 rw [atI]
 cases h : L.findIdx? (fun e => decide (e.nm = l)) with
 | none =>
   rw [List.findIdx?_eq_none_iff] at h
   have := h e hm
   simp [hn] at this
 | some j =>
   obtain ⟨hl, hp, _⟩ := List.findIdx?_eq_some_iff_getElem.1 h
   obtain ⟨hi, rfl⟩ := List.getElem?_eq_some_iff.1 he
   have h1 : L[j].nm = L[i].nm := by rw [hn]; simpa using hp
   rcases Nat.lt_trichotomy i j with hlt | heq | hgt
   · exact absurd h1.symm (ahd_ne (List.pairwise_iff_getElem.1 hs i j hi hl hlt))
   · rw [heq]
   · exact absurd h1 (ahd_ne (List.pairwise_iff_getElem.1 hs j i hl hi hgt))
theorem atI_end {l : PN} {L : List TE} (h : ∀ (j : Nat) e, L[j]? = some e → e.nm ≠ l) : atI l L = -1 := by
 rw [atI_none, getT_none]
 intro e he
 obtain ⟨j, hj⟩ := List.mem_iff_getElem?.1 he
 exact h j e hj
theorem atI_get {l : PN} {L : List TE} {e : TE} (hs : SrtT L) (h : getT l L = some e) : ∃ i : Nat, L[i]? = some e ∧ atI l L = (i : Int) := by
 obtain ⟨hm, hn⟩ := getT_nm h
 obtain ⟨i, hi⟩ := List.mem_iff_getElem?.1 hm
 exact ⟨i, hi, (atI_some hs hi hn).1⟩
def kidB (l m : PN) : Bool := decide (m.length = l.length + 1) && l.isPrefixOf m
theorem kidB_eq (l : PN) (e : TE) : (kidOf l e).isSome = kidB l e.nm := by
 rw [Bool.eq_iff_iff, Option.isSome_iff_exists, kidB, Bool.and_eq_true, decide_eq_true_eq, List.isPrefixOf_iff_prefix]
 constructor
 · rintro ⟨k, hk⟩
   rw [(kidOf_some.1 hk).1]
   exact ⟨by simp, List.prefix_append _ _⟩
 · rintro ⟨hl, t, ht⟩
   have : t.length = 1 := by rw [← ht, List.length_append] at hl; omega
   obtain ⟨s, rfl⟩ := List.length_eq_one_iff.1 this
   exact ⟨(s, e.p), kidOf_some.2 ⟨ht.symm, rfl⟩⟩
theorem kids_count (L : List TE) (l : PN) : (kidsT L l).length = L.countP fun e => kidB l e.nm := by
 rw [kidsT, List.length_filterMap_eq_countP]
 congr 1
 funext e; exact kidB_eq l e
def insR (e : RN) : List RN → List RN
 | [] => [e]
 | y :: r => if ahd e.nm y.nm then e :: y :: r else y :: insR e r
theorem insR_te (e : RN) : ∀ R : List RN, (insR e R).map RN.te = insT e.te (R.map RN.te)
 | [] => rfl
 | y :: r => by
   rw [insR, List.map_cons, insT]
   show _ = if ahd e.nm y.nm then _ else _
   by_cases h : ahd e.nm y.nm = true
   · rw [if_pos h, if_pos h]; rfl
   · rw [if_neg h, if_neg h, List.map_cons, insR_te e r]
def putD (e : RN) (R : List RN) : Bool := R.any fun y => ahd e.nm y.nm
theorem putD_snoc (e : RN) (A : List RN) (y : RN) : putD e (A ++ [y]) = (putD e A || ahd e.nm y.nm) := by
 rw [putD, List.any_append]; simp [putD]
theorem insR_not {e : RN} (B : List RN) : ∀ {A : List RN}, putD e A = false → insR e (A ++ B) = A ++ insR e B
 | [], _ => rfl
 | y :: r, h => by
   rw [putD, List.any_cons, Bool.or_eq_false_iff] at h
   rw [List.cons_append, insR, if_neg (by rw [h.1]; decide), insR_not B (A := r) h.2, List.cons_append]
theorem insR_done {e : RN} (B : List RN) : ∀ {A : List RN}, putD e A = true → insR e (A ++ B) = insR e A ++ B
 | [], h => by cases h
 | y :: r, h => by
   rw [List.cons_append, insR, insR]
   by_cases hy : ahd e.nm y.nm = true
   · rw [if_pos hy, if_pos hy]; rfl
   · rw [if_neg hy, if_neg hy, List.cons_append, insR_done B (A := r)]
     rw [putD, List.any_cons] at h
     rcases Bool.or_eq_true_iff.1 h with h | h
     · exact absurd h hy
     · exact h
def putL (e : RN) (A : List RN) : List RN := if putD e A then insR e A else A
theorem putL_done {e y : RN} {A : List RN} (h : putD e A = true) : putL e (A ++ [y]) = putL e A ++ [y] := by
 rw [putL, putL, putD_snoc, h, Bool.true_or, if_pos rfl, if_pos rfl, insR_done _ h]
theorem putL_here {e y : RN} {A : List RN} (h : putD e A = false) (hy : ahd e.nm y.nm = true) : putL e (A ++ [y]) = putL e A ++ [e] ++ [y] := by
 rw [putL, putL, putD_snoc, h, hy, Bool.or_true, if_pos rfl, if_neg (by decide), insR_not _ h, insR, if_pos hy]; simp
theorem putL_on {e y : RN} {A : List RN} (h : putD e A = false) (hy : ahd e.nm y.nm = false) : putL e (A ++ [y]) = putL e A ++ [y] := by
 rw [putL, putL, putD_snoc, h, hy, if_neg (by decide), if_neg (by decide)]
theorem putL_end {e : RN} {R : List RN} : (putD e R = true → putL e R = insR e R) ∧ (putD e R = false → putL e R ++ [e] = insR e R) := by
 constructor
 · intro h; rw [putL, if_pos h]
 · intro h
   have := insR_not (e := e) [] h
   rw [List.append_nil] at this
   rw [putL, if_neg (by rw [h]; decide), this]; rfl
theorem insR_mem {e x : RN} : ∀ {R : List RN}, x ∈ insR e R ↔ x = e ∨ x ∈ R
 | [] => by simp [insR]
 | y :: r => by
   rw [insR]; split
   · simp
   · rw [List.mem_cons, insR_mem (R := r), List.mem_cons]
     constructor
     · rintro (h | h | h)
       · exact .inr (.inl h)
       · exact .inl h
       · exact .inr (.inr h)
     · rintro (h | h | h)
       · exact .inr (.inl h)
       · exact .inl h
       · exact .inr (.inr h)
theorem insR_len {e : RN} : ∀ {R : List RN}, (insR e R).length = R.length + 1
 | [] => rfl
 | y :: r => by
   rw [insR]; split
   · rfl
   · rw [List.length_cons, insR_len (R := r), List.length_cons]
end Go.Proofs.YtnkapojbijbbaaaGreatDoor.Sr
namespace Go.Proofs.YtnkapojbijbbaaaGreatDoor.Sr
open Go.RowKit Go.Maps Go.WideMaps Rf Go.Proofs.YtnkapojbijbbaaaGreatDoor.Nm St
abbrev RnT : TypeId := 86
abbrev RtT : TypeId := 89
def RN.cells (n : RN) : List Value := n.nv :: (n.at_.cells n.xv ++ [.string ⟨n.data.toArray⟩, .int .u64 (n.ino : Int), .int .i64 n.tick])
abbrev rnV (n : RN) : Value := .agg n.cells.toArray
theorem rn_len (n : RN) : n.cells.length = 11 := rfl
def rcells (R : List RN) : List Value := R.flatMap RN.cells
theorem rcells_append (A B : List RN) : rcells (A ++ B) = rcells A ++ rcells B := by rw [rcells, List.flatMap_append]; rfl
theorem rcells_one (A : List RN) (n : RN) : rcells A ++ n.cells = rcells (A ++ [n]) := by rw [rcells_append]; simp [rcells]
theorem rcells_length : ∀ R : List RN, (rcells R).length = 11 * R.length
 | [] => rfl
 | n :: r => by
   rw [rcells, List.flatMap_cons, List.length_append, rn_len, ← rcells, rcells_length r, List.length_cons]; omega
theorem rcells_at {R : List RN} {j : Nat} {n : RN} (hj : R[j]? = some n) {t : Nat} {v : Value} (hv : n.cells[t]? = some v) : (rcells R)[j * 11 + t]? = some v := by
 obtain ⟨hjl, rfl⟩ := List.getElem?_eq_some_iff.1 hj
 have e1 : R = R.take j ++ (R[j] :: R.drop (j + 1)) := by rw [← List.drop_eq_getElem_cons hjl, List.take_append_drop]
 have ht := (List.getElem?_eq_some_iff.1 hv).1
 have e2 : rcells R = rcells (R.take j) ++ (R[j].cells ++ rcells (R.drop (j + 1))) := by
  conv => lhs; rw [e1]
  rw [rcells_append]; rfl
 rw [e2, List.getElem?_append_right (by rw [rcells_length, List.length_take]; omega), rcells_length, List.length_take, Nat.min_eq_left (by omega), show j * 11 + t - 11 * j = t by omega, List.getElem?_append_left ht]
 exact hv
theorem strs_one {w : World} {v : Value} {ps : PN} (h : St.StrsAt w v ps) : v.oneCell' = true := by
 obtain ⟨a, c, rfl, _⟩ := h; rfl
theorem rn_ones {n : RN} (h1 : n.nv.oneCell' = true) (h2 : n.xv.oneCell' = true) : ∀ u ∈ n.cells, u.oneCell' = true := by
 intro u hu
 simp only [RN.cells, XA.cells, List.mem_cons, List.not_mem_nil, or_false, List.cons_append, List.nil_append] at hu
 rcases hu with rfl | rfl | rfl | rfl | rfl | rfl | rfl | rfl | rfl | rfl | rfl <;> first | rfl | assumption
def robN (n : RN) : List Nat := ob n.nv ++ xob n.at_.xs n.xv
def robL (R : List RN) : List Nat := R.flatMap robN
def rblk (r : Nat) (v : Value) (R : List RN) : List Nat := r :: (ob v ++ robL R)
theorem robL_mem {R : List RN} {n : RN} {b : Nat} (hn : n ∈ R) (hb : b ∈ robN n) : b ∈ robL R := List.mem_flatMap.2 ⟨n, hn, hb⟩
structure RTree (B : Nat) (w : World) (r : Nat) (v : Value) (R : List RN) (F : Tr) : Prop where
 book : w.heap[r]? = some (.cells #[v, .int .i64 (F.clock : Int), .int .u64 (F.most : Int), .int .i64 (F.reads : Int)] RtT)
 row : w.ownsRow B RnT 11 v R.length (rcells R)
 off : ∀ x ∈ ob v, x ≠ r
 base : B ≤ r
 node : ∀ n ∈ R, PathAt B w n.nv n.nm ∧ XsAt w n.xv n.at_.xs
 apart : ∀ b ∈ robL R, B ≤ b ∧ b ≠ r ∧ b ∉ ob v
 is : F.L = R.map RN.te
section
variable {B : Nat} {w w' : World} {r : Nat} {v : Value} {R : List RN} {F : Tr}
theorem RTree.lt (h : RTree B w r v R F) : ∀ b ∈ rblk r v R, b < w.heap.size := by
 intro b hb
 rw [rblk, List.mem_cons, List.mem_append] at hb
 rcases hb with rfl | hb | hb
 · exact lt_of_heap h.book
 · exact rowS_lt h.row b hb
 · obtain ⟨n, hn, hb⟩ := List.mem_flatMap.1 hb
   rcases List.mem_append.1 hb with hb | hb
   · exact rowS_lt (h.node n hn).1.row b hb
   · exact (h.node n hn).2.lt b hb
theorem RTree.kept (h : RTree B w r v R F) (hs : w.heap.size ≤ w'.heap.size) (hb : ∀ b ∈ rblk r v R, w'.heap[b]? = w.heap[b]?) : RTree B w' r v R F := by
 have hrow : ∀ b ∈ robL R, w'.heap[b]? = w.heap[b]? := fun b hx => hb b (by rw [rblk, List.mem_cons, List.mem_append]; exact .inr (.inr hx))
 refine ⟨(hb r (by simp [rblk])).trans h.book, rowS_kept h.row (fun b hx _ => hb b (by rw [rblk, List.mem_cons, List.mem_append]; exact .inr (.inl hx))), h.off, h.base, fun n hn => ⟨?_, ?_⟩, h.apart, h.is⟩
 · exact (h.node n hn).1.kept (fun b hx => hrow b (robL_mem hn (List.mem_append_left _ hx)))
 · exact (h.node n hn).2.kept hs (fun b hx => hrow b (robL_mem hn (List.mem_append_right _ hx)))
theorem RTree.below (h : RTree B w r v R F) (hb : Below w.heap.size w w') : RTree B w' r v R F :=
 h.kept hb.size (fun b hx => hb.block b (h.lt b hx))
theorem RTree.mono {B' : Nat} (h : RTree B w r v R F) (hB : B' ≤ B) : RTree B' w r v R F :=
 ⟨h.book, row_mono h.row hB, h.off, Nat.le_trans hB h.base, fun n hn => ⟨⟨row_mono (h.node n hn).1.row hB, (h.node n hn).1.len⟩, (h.node n hn).2⟩, fun b hb => ⟨Nat.le_trans hB (h.apart b hb).1, (h.apart b hb).2⟩, h.is⟩
theorem RTree.len (h : RTree B w r v R F) : R.length = F.L.length := by rw [h.is, List.length_map]
theorem RTree.ent {g n cap : Nat} (h : RTree B w r (.slice (some ⟨g, 0, none⟩) n cap) R F) {i : Nat} {e : RN} (he : R[i]? = some e) : w.rangeAt g (i * 11) e.cells := by
 obtain ⟨h1, ⟨hc, _⟩ | ⟨g', cap', cur, hv, a1, a2, a3, a4, a5, a6⟩⟩ := h.row
 · cases hc
 · injection hv with e1 e2 e3
   injection e1 with e1
   injection e1 with e1
   subst e1
   intro t u hu
   rw [cell_of_heap a2]
   have hk := rcells_at he hu
   rw [← a6] at hk
   have hlt : i * 11 + t < R.length * 11 := by
    have := (List.getElem?_eq_some_iff.1 hk).1
    rw [List.length_take] at this
    omega
   rw [List.getElem?_take_of_lt hlt, Array.getElem?_toList] at hk
   exact hk
theorem RTree.form (h : RTree B w r v R F) (hne : R.length ≠ 0) : ∃ g cap, v = .slice (some ⟨g, 0, none⟩) R.length cap ∧ g < w.heap.size := by
 obtain ⟨g, cap, hv, hg, _⟩ := rowS_form h.row hne
 exact ⟨g, cap, hv, hg⟩
theorem RTree.get (h : RTree B w r v R F) {i : Nat} {e : TE} (he : F.L[i]? = some e) : ∃ n, R[i]? = some n ∧ n.te = e := by
 rw [h.is, List.getElem?_map] at he
 cases hr : R[i]? with
 | none => rw [hr] at he; cases he
 | some n => rw [hr] at he; exact ⟨n, rfl, Option.some.inj he⟩
theorem RTree.at_ (h : RTree B w r v R F) {i : Nat} {n : RN} (hn : R[i]? = some n) : F.L[i]? = some n.te := by
 rw [h.is, List.getElem?_map, hn]; rfl
end
def RPost (B : Nat) (w : World) (r : Nat) (v : Value) (R : List RN) (F' : Tr) (c : Int) (e : Ending) (w' : World) : Prop :=
 e = .returned (.int .i64 c) ∧ ∃ v' R', RTree B w' r v' R' F' ∧ Turn (r :: ob v) w w' ∧ ∀ b ∈ rblk r v' R', b ∈ rblk r v R ∨ w.heap.size ≤ b
theorem rpost_same {B : Nat} {w w' : World} {r : Nat} {v : Value} {R : List RN} {F : Tr} {c : Int} {e : Ending} (h : RTree B w r v R F) (hb : Below w.heap.size w w') (he : e = .returned (.int .i64 c)) : RPost B w r v R F c e w' :=
 ⟨he, v, R, h.below hb, Turn.of_below hb, fun _ hb => .inl hb⟩
end Go.Proofs.YtnkapojbijbbaaaGreatDoor.Sr
namespace Go.Proofs.YtnkapojbijbbaaaGreatDoor.Sr
open Go.RowKit Go.Maps Go.WideMaps Rf Go.Proofs.YtnkapojbijbbaaaGreatDoor.Nm St
theorem pre_no {a b : PN} {i : Nat} {x y : List UInt8} (ha : a[i]? = some x) (hb : b[i]? = some y) (h : x ≠ y) : a.isPrefixOf b = false := by
 cases hp : a.isPrefixOf b with
 | false => rfl
 | true =>
   have := (pre_at.1 hp).2 i x ha
   rw [hb] at this
   exact absurd (Option.some.inj this).symm h
theorem pre_no_len {a b : PN} (h : b.length < a.length) : a.isPrefixOf b = false := by
 cases hp : a.isPrefixOf b with
 | false => rfl
 | true => have := (pre_at.1 hp).1; omega
theorem drawW {w0 w : World} (h : Below w0.heap.size w0 w) (n : Nat) : Below w0.heap.size w0 (w.drewN n) := h.trans ((St.below_drewN w n).mono h.size)
theorem begins_any (w : World) (va vb : Value) (a b : PN) (ha : St.StrsAt w va a) (hb : St.StrsAt w vb b) :
 Calls Tryz.prog 73 #[va, vb] w fun e w' => e = .returned (.bool (a.isPrefixOf b)) ∧ Below w.heap.size w w' := by
 obtain ⟨aa, ac, rfl, hal, ham, hac⟩ := ha
 obtain ⟨ba, bc, rfl, hbl, hbm, hbc⟩ := hb
 unfold maxLen at hal hbl
 have HA := Lib.hid hac; have HB := Lib.hid hbc
 clear hac hbc ham hbm
 by_cases hlen : (b.length : Int) < (a.length : Int)
 · have HR : Hid (a.isPrefixOf b = false) := Lib.hid (pre_no_len (by omega))
   go_enter Tryz.func73, Tryz.ntmps73
   go_wp2
   go_ret
   rw [HR.out]; exact ⟨rfl, Below.refl _ _⟩
 · have hle : a.length ≤ b.length := by omega
   go_enter Tryz.func73, Tryz.ntmps73
   go_wp2
   go_loopw [5] (fun v5 wr => ∃ i : Nat, i ≤ a.length ∧ v5 = .int .i64 (i : Int) ∧ Hid (∀ (j : Nat) x, j < i → a[j]? = some x → b[j]? = some x) ∧ Hid (Below w.heap.size w wr)) (fun v5 _ => a.length - (RowKit.intOf v5).toNat)
   case atStart => exact ⟨0, Nat.zero_le _, rfl, Lib.hid (fun j x hj _ => absurd hj (Nat.not_lt_zero _)), Lib.hid (Below.refl _ _)⟩
   case round =>
    obtain ⟨i, hi, rfl, HP, HW⟩ := hrel
    by_cases hil : (i : Int) < (a.length : Int)
    · have hi1 : i < a.length := by omega
      have hi2 : i < b.length := by omega
      obtain ⟨x, hx⟩ : ∃ x, a[i]? = some x := ⟨_, List.getElem?_eq_getElem hi1⟩
      obtain ⟨y, hy⟩ : ∃ y, b[i]? = some y := ⟨_, List.getElem?_eq_getElem hi2⟩
      obtain ⟨bp, op, rfl, hbp, hcp⟩ := HA.out (fun e => by rw [e] at hi1; cases hi1)
      obtain ⟨bq, oq, rfl, hbq, hcq⟩ := HB.out (fun e => by rw [e] at hi2; cases hi2)
      have cp : wr.cell? ⟨bp, op + i, none⟩ = some (.string ⟨x.toArray⟩) := (World.cell?_of_block (a := ⟨bp, op + i, none⟩) (HW.out.block _ hbp)).trans (hcp i x hx)
      have cq : wr.cell? ⟨bq, oq + i, none⟩ = some (.string ⟨y.toArray⟩) := (World.cell?_of_block (a := ⟨bq, oq + i, none⟩) (HW.out.block _ hbq)).trans (hcq i y hy)
      have HX := Lib.hid hx; have HY := Lib.hid hy
      clear hcp hcq hx hy
      by_cases hxy : x = y
      · have q1 : (x == y) = true := by simpa using hxy
        have HXY := Lib.hid hxy
        clear hxy
        go_wp2
        go_quiet (fail)
        go_wp2
        go_roundw
        case rel =>
         refine ⟨i + 1, by omega, by go_num, Lib.hid (fun j z hj hz => ?_), Lib.hid (drawW HW.out _)⟩
         rcases Nat.lt_succ_iff_lt_or_eq.1 hj with h | rfl
         · exact HP.out j z h hz
         · rw [HX.out] at hz; rw [HY.out, ← HXY.out]; exact hz
        case measure => simp [RowKit.intOf]; omega
      · have q1 : (x == y) = false := by simpa using hxy
        have HR : Hid (a.isPrefixOf b = false) := Lib.hid (pre_no HX.out HY.out hxy)
        clear hxy
        go_wp2
        go_quiet (fail)
        go_wp2
        go_ret
        rw [HR.out]; exact ⟨rfl, drawW HW.out _⟩
    · obtain rfl : i = a.length := by omega
      have HR : Hid (a.isPrefixOf b = true) := Lib.hid (pre_at.2 ⟨hle, fun j x hx => HP.out j x (List.getElem?_eq_some_iff.1 hx).1 hx⟩)
      go_wp2
      go_ret
      rw [HR.out]; exact ⟨rfl, HW.out⟩
theorem ahd_len {a b : PN} {i : Nat} (h : a.take i = b.take i) (hi : i = a.length ∨ i = b.length) (hl : i ≤ a.length ∧ i ≤ b.length) : ahd a b = decide (a.length < b.length) := by
 rw [ahd_drop h]
 rcases hi with rfl | rfl
 · rw [List.drop_length]
   cases hd : b.drop a.length with
   | nil => rw [List.drop_eq_nil_iff] at hd; simp [ahd]; omega
   | cons y s =>
     have : a.length < b.length := by
      have := congrArg List.length hd
      rw [List.length_drop, List.length_cons] at this; omega
     simp [ahd, this]
 · rw [List.drop_length]
   cases hd : a.drop b.length with
   | nil => rw [List.drop_eq_nil_iff] at hd; simp [ahd]; omega
   | cons y s => simp [ahd]; omega
theorem ahd_at {a b : PN} {i : Nat} {x y : List UInt8} (h : a.take i = b.take i) (hx : a[i]? = some x) (hy : b[i]? = some y) (hne : x ≠ y) : ahd a b = lt x y := by
 rw [ahd_drop h]
 obtain ⟨h1, rfl⟩ := List.getElem?_eq_some_iff.1 hx
 obtain ⟨h2, rfl⟩ := List.getElem?_eq_some_iff.1 hy
 rw [List.drop_eq_getElem_cons h1, List.drop_eq_getElem_cons h2, ahd, if_neg hne]
theorem take_more {a b : PN} {i : Nat} {x : List UInt8} (h : a.take i = b.take i) (hx : a[i]? = some x) (hy : b[i]? = some x) : a.take (i + 1) = b.take (i + 1) := by
 rw [List.take_add_one, List.take_add_one, h, hx, hy]
theorem ahead_any (w : World) (va vb : Value) (a b : PN) (ha : St.StrsAt w va a) (hb : St.StrsAt w vb b) :
 Calls Tryz.prog 88 #[va, vb] w fun e w' => e = .returned (.bool (ahd a b)) ∧ Below w.heap.size w w' := by
 obtain ⟨aa, ac, rfl, hal, ham, hac⟩ := ha
 obtain ⟨ba, bc, rfl, hbl, hbm, hbc⟩ := hb
 unfold maxLen at hal hbl
 have HA := Lib.hid hac; have HB := Lib.hid hbc
 clear hac hbc ham hbm
 go_enter Tryz.func88, Tryz.ntmps88
 go_wp2
 go_loopw [5] (fun v5 wr => ∃ i : Nat, i ≤ a.length ∧ i ≤ b.length ∧ v5 = .int .i64 (i : Int) ∧ Hid (a.take i = b.take i) ∧ Hid (Below w.heap.size w wr)) (fun v5 _ => a.length - (RowKit.intOf v5).toNat)
 case atStart => exact ⟨0, Nat.zero_le _, Nat.zero_le _, rfl, Lib.hid rfl, Lib.hid (Below.refl _ _)⟩
 case round =>
  obtain ⟨i, hi, hib, rfl, HP, HW⟩ := hrel
  by_cases hia : (i : Int) < (a.length : Int)
  · by_cases hil : (i : Int) < (b.length : Int)
    · have hi1 : i < a.length := by omega
      have hi2 : i < b.length := by omega
      obtain ⟨x, hx⟩ : ∃ x, a[i]? = some x := ⟨_, List.getElem?_eq_getElem hi1⟩
      obtain ⟨y, hy⟩ : ∃ y, b[i]? = some y := ⟨_, List.getElem?_eq_getElem hi2⟩
      obtain ⟨bp, op, rfl, hbp, hcp⟩ := HA.out (fun e => by rw [e] at hi1; cases hi1)
      obtain ⟨bq, oq, rfl, hbq, hcq⟩ := HB.out (fun e => by rw [e] at hi2; cases hi2)
      have cp : wr.cell? ⟨bp, op + i, none⟩ = some (.string ⟨x.toArray⟩) := (World.cell?_of_block (a := ⟨bp, op + i, none⟩) (HW.out.block _ hbp)).trans (hcp i x hx)
      have cq : wr.cell? ⟨bq, oq + i, none⟩ = some (.string ⟨y.toArray⟩) := (World.cell?_of_block (a := ⟨bq, oq + i, none⟩) (HW.out.block _ hbq)).trans (hcq i y hy)
      have HX := Lib.hid hx; have HY := Lib.hid hy
      clear hcp hcq hx hy
      by_cases hxy : x = y
      · have q1 : (x == y) = true := by simpa using hxy
        have HXY := Lib.hid hxy
        clear hxy
        go_wp2
        go_quiet (fail)
        go_wp2
        go_roundw
        case rel => exact ⟨i + 1, by omega, by omega, by go_num, Lib.hid (take_more HP.out HX.out (by rw [HY.out, HXY.out])), Lib.hid (drawW HW.out _)⟩
        case measure => simp [RowKit.intOf]; omega
      · have q1 : (x == y) = false := by simpa using hxy
        have HR : Hid (ahd a b = lt x y) := Lib.hid (ahd_at HP.out HX.out HY.out hxy)
        clear hxy
        cases hl : lt x y with
        | true =>
          have hlp : Op.bytesLess x y = true := by rw [lt_less]; exact hl
          go_wp2
          go_quiet (fail)
          go_wp2
          go_quiet (fail)
          go_wp2
          go_ret
          rw [HR.out, hl]; exact ⟨rfl, drawW (drawW HW.out _) _⟩
        | false =>
          have hlp : Op.bytesLess x y = false := by rw [lt_less]; exact hl
          go_wp2
          go_quiet (fail)
          go_wp2
          go_quiet (fail)
          go_wp2
          go_ret
          rw [HR.out, hl]; exact ⟨rfl, drawW (drawW HW.out _) _⟩
    · have HR : Hid (ahd a b = decide ((a.length : Int) < (b.length : Int))) := Lib.hid (by rw [ahd_len HP.out (.inr (by omega)) ⟨hi, hib⟩]; congr 1; simp)
      have hab : decide ((a.length : Int) < (b.length : Int)) = false := by simp; omega
      rw [hab] at HR
      have hab2 : ¬ ((a.length : Int) < (b.length : Int)) := by omega
      clear hab
      go_wp2
      go_ret
      rw [HR.out]; exact ⟨rfl, HW.out⟩
  · have HR : Hid (ahd a b = decide ((a.length : Int) < (b.length : Int))) := Lib.hid (by rw [ahd_len HP.out (.inl (by omega)) ⟨hi, hib⟩]; congr 1; simp)
    by_cases hab : (a.length : Int) < (b.length : Int)
    · have HR2 : Hid (ahd a b = true) := Lib.hid (by rw [HR.out]; simpa using hab)
      go_wp2
      go_ret
      rw [HR2.out]; exact ⟨rfl, HW.out⟩
    · have HR2 : Hid (ahd a b = false) := Lib.hid (by rw [HR.out]; simpa using hab)
      go_wp2
      go_ret
      rw [HR2.out]; exact ⟨rfl, HW.out⟩
theorem rat_any (B : Nat) (w : World) (r : Nat) (v : Value) (R : List RN) (F : Tr) (vl : Value) (l : PN) (hl : St.StrsAt w vl l) (hs : SrtT F.L) (hlen : R.length ≤ 1000000) (h : RTree B w r v R F) :
 Calls Tryz.prog 70 #[ptr r, vl] w fun e w' => e = .returned (.int .i64 (atI l F.L)) ∧ Below w.heap.size w w' := by
 have HL := Lib.hid hl
 obtain ⟨la, lc, rfl, hll, _, _⟩ := hl
 obtain ⟨va, vc, rfl⟩ := rowS_slice h.row
 unfold maxLen at hll
 have H := Lib.hid h; have HS := Lib.hid hs
 clear h hs
 unfold ptr
 go_enter Tryz.func70, Tryz.ntmps70
 go_wp2
 go_loopw [5] (fun v5 wr => ∃ i : Nat, i ≤ R.length ∧ v5 = .int .i64 (i : Int) ∧ Hid (∀ (j : Nat) n, j < i → R[j]? = some n → n.nm ≠ l) ∧ Hid (Below w.heap.size w wr)) (fun v5 _ => R.length - (RowKit.intOf v5).toNat)
 case atStart => exact ⟨0, Nat.zero_le _, rfl, Lib.hid (fun j x hj _ => absurd hj (Nat.not_lt_zero _)), Lib.hid (Below.refl _ _)⟩
 case round =>
  obtain ⟨i, hi, rfl, HP, HW⟩ := hrel
  have HX := Lib.hid (H.out.below HW.out)
  have c0 : wr.cell? ⟨r, 0, none⟩ = some (.slice va R.length vc) := cell_of_heap HX.out.book
  by_cases hil : (i : Int) < (R.length : Int)
  · have hi1 : i < R.length := by omega
    obtain ⟨n, hn⟩ : ∃ n, R[i]? = some n := ⟨_, List.getElem?_eq_getElem hi1⟩
    obtain ⟨gv, cap, hv, hgv⟩ := HX.out.form (by omega)
    injection hv with e1 e2 e3
    subst e1 e3
    have hst := (HX.out.node n (List.mem_of_getElem? hn)).1.strs
    have HST := Lib.hid hst
    obtain ⟨na, nc, hnv, hnl, _, _⟩ := hst
    unfold maxLen at hnl
    have cp : wr.cell? ⟨gv, i * 11, none⟩ = some (.slice na n.nm.length nc) := by rw [← hnv]; exact HX.out.ent hn 0 _ rfl
    have HN := Lib.hid hn; have HNV := Lib.hid hnv
    have HTE := Lib.hid (H.out.at_ hn)
    clear hn hnv e2
    by_cases hlq : (n.nm.length : Int) = (l.length : Int)
    · have CB := Lib.hid (begins_any wr (.slice la l.length lc) n.nv l n.nm (HL.out.below HW.out) HST.out)
      rw [HNV.out] at CB
      have q0 : ((n.nm.length : Int) == (l.length : Int)) = true := by simpa using hlq
      have HPL : Hid (l.isPrefixOf n.nm = decide (n.nm = l)) := Lib.hid (pre_len (by omega))
      by_cases hnm : n.nm = l
      · have HPT : Hid (l.isPrefixOf n.nm = true) := Lib.hid (by rw [HPL.out]; simpa using hnm)
        have HNM := Lib.hid hnm
        clear hnm hlq
        rw [HPT.out] at CB
        go_wp2_with fail
        refine CB.out.mono ?_
        rintro e w1 ⟨rfl, hb1⟩
        have HB1 := Lib.hid hb1
        clear hb1 CB
        go_wp2
        go_ret
        rw [(atI_some HS.out HTE.out HNM.out).1]
        exact ⟨rfl, HW.out.trans (HB1.out.mono HW.out.size)⟩
      · have HPT : Hid (l.isPrefixOf n.nm = false) := Lib.hid (by rw [HPL.out]; simpa using hnm)
        have HNM := Lib.hid hnm
        clear hnm hlq
        rw [HPT.out] at CB
        go_wp2_with fail
        refine CB.out.mono ?_
        rintro e w1 ⟨rfl, hb1⟩
        have HB1 := Lib.hid hb1
        clear hb1 CB
        go_wp2
        go_roundw
        case rel =>
         refine ⟨i + 1, by omega, by go_num, Lib.hid (fun j z hj hz => ?_), Lib.hid (HW.out.trans (HB1.out.mono HW.out.size))⟩
         rcases Nat.lt_succ_iff_lt_or_eq.1 hj with h | rfl
         · exact HP.out j z h hz
         · rw [HN.out] at hz; obtain rfl := Option.some.inj hz; exact HNM.out
        case measure => simp [RowKit.intOf]; omega
    · have q0 : ((n.nm.length : Int) == (l.length : Int)) = false := by simpa using hlq
      have HNM : Hid (n.nm ≠ l) := Lib.hid (fun h => hlq (by rw [h]))
      clear hlq
      go_wp2
      go_roundw
      case rel =>
       refine ⟨i + 1, by omega, by go_num, Lib.hid (fun j z hj hz => ?_), HW⟩
       rcases Nat.lt_succ_iff_lt_or_eq.1 hj with h | rfl
       · exact HP.out j z h hz
       · rw [HN.out] at hz; obtain rfl := Option.some.inj hz; exact HNM.out
      case measure => simp [RowKit.intOf]; omega
  · obtain rfl : i = R.length := by omega
    have HR : Hid (atI l F.L = -1) := Lib.hid (atI_end (fun j e hj => by
     obtain ⟨n, hn, rfl⟩ := H.out.get hj
     exact HP.out j n (List.getElem?_eq_some_iff.1 hn).1 hn))
    go_wp2
    go_ret
    rw [HR.out]; exact ⟨rfl, HW.out⟩
end Go.Proofs.YtnkapojbijbbaaaGreatDoor.Sr
