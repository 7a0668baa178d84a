import Derived.Test.YtnkapojbijbbaaaGreatDoorZPSrHapIs
import Derived.Test.YtnkapojbijbbaaaGreatDoorZPRtMake
import Derived.Test.YtnkapojbijbbaaaGreatDoorZPRtAttr
import Derived.Test.YtnkapojbijbbaaaGreatDoorZPRtDrop
import Derived.Test.YtnkapojbijbbaaaGreatDoorZPMvR8
import Derived.Test.YtnkapojbijbbaaaGreatDoorZPNmSplitCore
import Derived.Test.YtnkapojbijbbaaaGreatDoorZPSrNew
set_option linter.unusedSimpArgs false
set_option linter.unusedVariables false
set_option maxHeartbeats 8000000
set_option maxRecDepth 100000
namespace Go.Proofs.YtnkapojbijbbaaaGreatDoor.Sr
open Go.RowKit Go.Maps Go.WideMaps Rf Go.Proofs.YtnkapojbijbbaaaGreatDoor.Nm St
def FolP (B : Nat) (w : World) (r : Nat) (v : Value) (R : List RN) (F' : Tr) (e : Ending) (w' : World) : Prop :=
 e = .returned (.bool true) ∧ ∃ v' R', RTree B w' r v' R' F' ∧ Turn (r :: ob v) w w' ∧ ∀ b ∈ rblk r v' R', b ∈ rblk r v R ∨ w.heap.size ≤ b
theorem fol_if {c : Int} {F G : Tr} : (if c = 0 then G else F) = (if c ≠ 0 then F else G) := by
 by_cases h : c = 0
 · rw [if_pos h, if_neg (fun hn => hn h)]
 · rw [if_neg h, if_pos h]
theorem follows_any (B : Nat) (w : World) (r : Nat) (v : Value) (R : List RN) (F : Tr) (k : Int) (p m : List UInt8) (t : Nat) (ht : t < 4294967296) (hp : p.length ≤ 4611686018427387904) (hm : m.length ≤ 4611686018427387904) (n : Nat) (hn : n ≤ 1000) (hT : Tabs w) (hg : GoodF n F) (hc : F.clock ≤ 1000000) (hB : B ≤ w.heap.size) (hms : k = 3 → moveE p m F = 0 → SrtT (moveN p m F).L) (h : RTree B w r v R F) :
 Calls Tryz.prog 9 #[ptr r, .agg #[.int .i64 k, .string ⟨p.toArray⟩, .string ⟨m.toArray⟩, .int .u32 (t : Int)]] w (FolP B w r v R (runN (hapX k p m t) F)) := by
 obtain ⟨W, hW⟩ : ∃ W, W = w.alloc (.cells #[.int .i64 k, .string ⟨p.toArray⟩, .string ⟨m.toArray⟩, .int .u32 (t : Int)] 36) := ⟨_, rfl⟩
 have hb0 : Below w.heap.size w W := by rw [hW]; exact (Below.refl _ _).alloc (Nat.le_refl _) _
 have H0 := Lib.hid (h.below hb0)
 have HB0 := Lib.hid hb0; have HG := Lib.hid hg; have HW := Lib.hid hW; have HBS := Lib.hid (Nat.le_trans hB hb0.size)
 have HTW := Lib.hid (hT.below hb0); have HMS := Lib.hid hms; have HC := Lib.hid hc
 have HRE : Hid (∀ w' v' R' F', RTree B w' r v' R' F' → Turn (r :: ob v) W w' → (∀ b ∈ rblk r v' R', b ∈ rblk r v R ∨ W.heap.size ≤ b) → F' = runN (hapX k p m t) F → FolP B w r v R (runN (hapX k p m t) F) (.returned (.bool true)) w') := Lib.hid (fun w' v' R' F' h1 h2 h3 h4 => by
  subst h4
  exact ⟨rfl, v', R', h1, (Turn.of_below hb0).trans h2 (fun y hy => .inl hy), fun b hb => (h3 b hb).imp id (fun h => Nat.le_trans hb0.size h)⟩)
 have hr : IntKind.u32.wrap ((t : Int) % 512) = ((t % 512 : Nat) : Int) := by rw [IntKind.wrap_u32]; omega
 have ht2 : ((t % 512 : Nat) : Int) = (t : Int) % 512 := by omega
 clear h hb0 hg hB hT hms hc
 by_cases e0 : k = 0
 · subst e0
   have CL := Lib.hid (rmake_any B W r v R F n p [] (asFold (modeA (t % 512))) (.slice none 0 0) HTW.out hp (by simp) (mode_xs W (t % 512)) (by simp [modeA, asFold, xob]) HG.out hn HC.out HBS.out H0.out)
   have HF' : Hid (∀ G, (if addE p [] (asFold (modeA (t % 512))) F = 0 then G else F) = (if addE p [] (asFold (modeA (t % 512))) F ≠ 0 then F else G)) := Lib.hid (fun G => fol_if)
   unfold ptr at *
   go_enter Tryz.func9, Tryz.ntmps9
   go_wp2_with fail
   rw [← ht2]
   rw [← HW.out]
   refine CL.out.mono ?_
   rintro ex w1 ⟨rfl, v', R', h1, h2, h3⟩
   have H1 := Lib.hid h1; have H2 := Lib.hid h2; have H3 := Lib.hid h3
   clear h1 h2 h3 CL
   go_wp2
   go_ret
   exact HRE.out _ _ _ _ H1.out H2.out H3.out (HF'.out _)
 have b0 : ((k : Int) == 0) = false := by rw [beq_eq_false_iff_ne]; exact e0
 by_cases e1 : k = 1
 · subst e1
   have CL := Lib.hid (rmake_any B W r v R F n p m (asFile (modeA (t % 512))) (.slice none 0 0) HTW.out hp hm (mode_xs W (t % 512)) (by simp [modeA, asFile, xob]) HG.out hn HC.out HBS.out H0.out)
   have HF' : Hid (∀ G, (if addE p m (asFile (modeA (t % 512))) F = 0 then G else F) = (if addE p m (asFile (modeA (t % 512))) F ≠ 0 then F else G)) := Lib.hid (fun G => fol_if)
   unfold ptr at *
   go_enter Tryz.func9, Tryz.ntmps9
   go_wp2_with fail
   rw [← ht2]
   rw [← HW.out]
   refine CL.out.mono ?_
   rintro ex w1 ⟨rfl, v', R', h1, h2, h3⟩
   have H1 := Lib.hid h1; have H2 := Lib.hid h2; have H3 := Lib.hid h3
   clear h1 h2 h3 CL
   go_wp2
   go_ret
   exact HRE.out _ _ _ _ H1.out H2.out H3.out (HF'.out _)
 have b1 : ((k : Int) == 1) = false := by rw [beq_eq_false_iff_ne]; exact e1
 by_cases e2 : k = 2
 · subst e2
   have CL := Lib.hid (rwrite_any B W r v R F n p m HTW.out hp hm HG.out hn HC.out H0.out)
   have HF' : Hid (∀ G, (if writeE p m F = 0 then G else F) = (if writeE p m F ≠ 0 then F else G)) := Lib.hid (fun G => fol_if)
   unfold ptr at *
   go_enter Tryz.func9, Tryz.ntmps9
   go_wp2_with fail
   rw [← HW.out]
   refine CL.out.mono ?_
   rintro ex w1 ⟨rfl, v', R', h1, h2, h3⟩
   have H1 := Lib.hid h1; have H2 := Lib.hid h2; have H3 := Lib.hid h3
   clear h1 h2 h3 CL
   go_wp2
   go_ret
   exact HRE.out _ _ _ _ H1.out H2.out H3.out (HF'.out _)
 have b2 : ((k : Int) == 2) = false := by rw [beq_eq_false_iff_ne]; exact e2
 by_cases e3 : k = 3
 · subst e3
   have CL := Lib.hid (rmove_any B W r v R F n p m HTW.out hp hm HG.out hn HC.out HBS.out (HMS.out rfl) H0.out)
   have HF' : Hid (∀ G, (if moveE p m F = 0 then G else F) = (if moveE p m F ≠ 0 then F else G)) := Lib.hid (fun G => fol_if)
   unfold ptr at *
   go_enter Tryz.func9, Tryz.ntmps9
   go_wp2_with fail
   rw [← HW.out]
   refine CL.out.mono ?_
   rintro ex w1 ⟨rfl, v', R', h1, h2, h3⟩
   have H1 := Lib.hid h1; have H2 := Lib.hid h2; have H3 := Lib.hid h3
   clear h1 h2 h3 CL
   go_wp2
   go_ret
   exact HRE.out _ _ _ _ H1.out H2.out H3.out (HF'.out _)
 have b3 : ((k : Int) == 3) = false := by rw [beq_eq_false_iff_ne]; exact e3
 by_cases e4 : k = 4
 · subst e4
   have CL := Lib.hid (rdrop_any B W r v R F n p HTW.out hp HG.out hn HC.out HBS.out H0.out)
   have HF' : Hid (∀ G, (if dropE p F = 0 then G else F) = (if dropE p F ≠ 0 then F else G)) := Lib.hid (fun G => fol_if)
   unfold ptr at *
   go_enter Tryz.func9, Tryz.ntmps9
   go_wp2_with fail
   rw [← HW.out]
   refine CL.out.mono ?_
   rintro ex w1 ⟨rfl, v', R', h1, h2, h3⟩
   have H1 := Lib.hid h1; have H2 := Lib.hid h2; have H3 := Lib.hid h3
   clear h1 h2 h3 CL
   go_wp2
   go_ret
   exact HRE.out _ _ _ _ H1.out H2.out H3.out (HF'.out _)
 have b4 : ((k : Int) == 4) = false := by rw [beq_eq_false_iff_ne]; exact e4
 by_cases e5 : k = 5
 · subst e5
   have CL := Lib.hid (rattr_any B W r v R F n p (modeA (t % 512)) (.slice none 0 0) HTW.out hp (mode_xs W (t % 512)) (by simp [modeA, xob]) HG.out hn HC.out HBS.out H0.out)
   have HF' : Hid (∀ G, (if attrE p (modeA (t % 512)) F = 0 then G else F) = (if attrE p (modeA (t % 512)) F ≠ 0 then F else G)) := Lib.hid (fun G => fol_if)
   unfold ptr at *
   go_enter Tryz.func9, Tryz.ntmps9
   go_wp2_with fail
   rw [← ht2]
   rw [← HW.out]
   refine CL.out.mono ?_
   rintro ex w1 ⟨rfl, v', R', h1, h2, h3⟩
   have H1 := Lib.hid h1; have H2 := Lib.hid h2; have H3 := Lib.hid h3
   clear h1 h2 h3 CL
   go_wp2
   go_ret
   exact HRE.out _ _ _ _ H1.out H2.out H3.out (HF'.out _)
 have b5 : ((k : Int) == 5) = false := by rw [beq_eq_false_iff_ne]; exact e5
 have HRI : Hid (F = runN (hapX k p m t) F) := Lib.hid (by
  rw [hapX, if_neg e0, if_neg e1, if_neg e2, if_neg e3, if_neg e4, if_neg e5]
  show F = if (0 : Int) ≠ 0 then F else F
  rw [if_neg (by decide)])
 unfold ptr at *
 go_enter Tryz.func9, Tryz.ntmps9
 go_wp2
 go_ret
 have HX := HRE.out W v R F H0.out (Turn.of_below (Below.refl _ _)) (fun b hb => .inl hb) HRI.out
 rw [HW.out] at HX
 exact HX
end Go.Proofs.YtnkapojbijbbaaaGreatDoor.Sr
namespace Go.Proofs.YtnkapojbijbbaaaGreatDoor.Nm
open Go.RowKit
def StrsAt (w : World) (v : Value) (ns : List (List UInt8)) : Prop :=
 ∃ a cap, v = .slice a ns.length cap ∧ ns.length ≤ maxLen ∧ (ns ≠ [] → ∃ b o, a = some ⟨b, o, none⟩ ∧ b < w.heap.size ∧ ∀ (j : Nat) x, ns[j]? = some x → w.cell? ⟨b, o + j, none⟩ = some (sv x))
theorem StrsAt.below {w w' : World} {v : Value} {ns : List (List UInt8)} (h : StrsAt w v ns) (hb : Below w.heap.size w w') : StrsAt w' v ns := by
 obtain ⟨a, cap, rfl, hm, h⟩ := h
 refine ⟨a, cap, rfl, hm, fun hne => ?_⟩
 obtain ⟨b, o, rfl, hlt, hc⟩ := h hne
 exact ⟨b, o, rfl, Nat.lt_of_lt_of_le hlt hb.size, fun j x hj => by rw [hb.cell (p := ⟨b, o + j, none⟩) hlt]; exact hc j x hj⟩
theorem StrsAt.of_owns {w : World} {base : Nat} {v : Value} {ns : List (List UInt8)} (h : w.ownsRow base 9 1 v ns.length (ns.map sv)) : StrsAt w v ns := by
 obtain ⟨hl, h⟩ := h
 rcases h with ⟨rfl, h0⟩ | ⟨g, cap, cur, rfl, hg, hh, hn, hcap, hsz, ht⟩
 · have : ns = [] := by cases ns with | nil => rfl | cons a t => simp at h0
   subst this; exact ⟨none, 0, rfl, by simp, fun h => absurd rfl h⟩
 · refine ⟨_, _, rfl, Nat.le_trans hn hcap, fun _ => ⟨g, 0, rfl, ?_, ?_⟩⟩
   · by_cases h : g < w.heap.size
     · exact h
     · rw [Array.getElem?_eq_none (by omega)] at hh; cases hh
   · intro j x hj
     have hj' : j < ns.length := (List.getElem?_eq_some_iff.1 hj).1
     have e : cur[j]? = some (sv x) := by
      have := congrArg (fun l => l[j]?) ht
      simp only [List.getElem?_map, hj, Option.map_some] at this
      rw [List.getElem?_take_of_lt (by omega), Array.getElem?_toList] at this
      exact this
     simp only [World.cell?, hh, Nat.zero_add]
     simpa using e
theorem StrsAt.nil (w : World) : StrsAt w (.slice none 0 0) [] := ⟨none, 0, rfl, by simp, fun h => absurd rfl h⟩
theorem chk_len {l : List UInt8} (h : chk l = true) : l.length ≤ 255 := by
 simp only [chk, lenFine, Bool.and_eq_true, decide_eq_true_eq] at h; omega
theorem ba_data (x : List UInt8) : (⟨x.toArray⟩ : ByteArray).data.toList = x := by simp
theorem pathOf_snoc (ns : List (List UInt8)) (x : List UInt8) : pathOf (ns ++ [x]) = pathOf ns ++ (47 :: x) := by simp [pathOf]
def joinE (ns : List (List UInt8)) : Int := if (joinP ns).isSome then 0 else 10
def joinT (ns : List (List UInt8)) : List UInt8 := (joinP ns).getD []
theorem joinP_no1 {ns : List (List UInt8)} (h : 16 < ns.length) : joinP ns = none := by
 rw [joinP, if_neg]; simp; omega
theorem joinP_no2 {ns : List (List UInt8)} {x : List UInt8} (h : x ∈ ns) (hc : chk x = false) : joinP ns = none := by
 rw [joinP, if_neg]
 intro hh
 simp only [Bool.and_eq_true, List.all_eq_true] at hh
 have := hh.2 x h
 rw [hc] at this; cases this
theorem joinP_yes {ns : List (List UInt8)} (h1 : ns.length ≤ 16) (h2 : ns.all chk = true) : joinP ns = some (if pathOf ns = [] then [47] else pathOf ns) := by
 rw [joinP, if_pos]; simp only [h2, Bool.and_true]; simpa using h1
def JoinPost (ns : List (List UInt8)) (w : World) (e : Ending) (w' : World) : Prop :=
 e = .returned (.tuple #[sv (joinT ns), .int .i64 (joinE ns)]) ∧ Below w.heap.size w w'
theorem joinPost_no {ns : List (List UInt8)} {w w' : World} {e : Ending} (h : joinP ns = none) (he : e = .returned (.tuple #[.string ⟨#[]⟩, .int .i64 10])) (hb : Below w.heap.size w w') : JoinPost ns w e w' :=
 ⟨by rw [he, joinE, joinT, h]; rfl, hb⟩
theorem ref_join (v : Value) (ns : List (List UInt8)) (w : World) (hT : Tabs w) (hv : StrsAt w v ns) :
 Calls Tryz.prog 78 #[v] w (JoinPost ns w) := by
 obtain ⟨a, cap, rfl, hm, hc⟩ := hv
 by_cases h16 : 16 < ns.length
 · have HN := Lib.hid (joinP_no1 h16)
   clear hc
   unfold maxLen at hm
   generalize hn : ns.length = n at *
   clear hn
   go_enter Tryz.func78, Tryz.ntmps78
   go_wp2
   go_ret2
   exact joinPost_no HN.out rfl (Below.refl _ _)
 · have HC := Lib.hid hc
   have h16' : ns.length ≤ 16 := by omega
   clear hc h16 hm
   go_enter Tryz.func78, Tryz.ntmps78
   go_wp2
   go_loopw [4, 5] (fun s4 s5 wr => ∃ (k : Nat) (P : ByteArray), k ≤ ns.length ∧ s5 = .int .i64 k ∧ s4 = .string P ∧ P.data.toList = pathOf (ns.take k) ∧ P.size ≤ 256 * k ∧ (∀ j x, j < k → ns[j]? = some x → chk x = true) ∧ Below w.heap.size w wr) (fun _ s5 _ => ns.length - (intOf s5).toNat)
   case atStart => exact ⟨0, ⟨#[]⟩, by omega, rfl, rfl, rfl, by simp [ByteArray.size], fun j x h => by omega, Below.refl _ _⟩
   case round =>
    obtain ⟨k, P, hk, rfl, rfl, hP, hPs, hall, hbw⟩ := hrel
    have HP := Lib.hid hP
    have HA := Lib.hid hall
    clear hP hall
    by_cases hlt : k < ns.length
    · obtain ⟨x, hkx⟩ : ∃ x, ns[k]? = some x := ⟨ns[k], List.getElem?_eq_getElem hlt⟩
      have hmem := List.mem_of_getElem? hkx
      obtain ⟨b, o, rfl, hb0, hcl⟩ := HC.out (List.ne_nil_of_mem hmem)
      have hc1 : wr.cell? ⟨b, o + k, none⟩ = some (sv x) := by rw [hbw.cell (p := ⟨b, o + k, none⟩) hb0]; exact hcl k x hkx
      have hb1 : b < wr.heap.size := Nat.lt_of_lt_of_le hb0 hbw.size
      unfold sv at hc1
      have hch := ref_check ⟨x.toArray⟩ wr (hT.below hbw)
      rw [ba_data] at hch
      have HKX := Lib.hid hkx
      clear hcl hkx
      cases hcb : chk x with
      | false =>
        have e1 : chkN x = 10 := by rw [chkN, hcb]; rfl
        rw [e1] at hch
        have HN := Lib.hid (joinP_no2 hmem hcb)
        have HCH := Lib.hid hch
        clear e1 hcb hch hmem
        go_wp2_with fail
        refine HCH.out.mono ?_
        rintro e w3 ⟨rfl, hb3⟩
        go_wp2
        go_ret2
        exact joinPost_no HN.out rfl (hbw.trans (hb3.mono hbw.size))
      | true =>
        have e1 : chkN x = 0 := by rw [chkN, hcb]; rfl
        rw [e1] at hch
        have HCB := Lib.hid hcb
        have HCH := Lib.hid hch
        have hx255 := chk_len hcb
        clear e1 hcb hch hmem
        go_wp2_with fail
        refine HCH.out.mono ?_
        rintro e w3 ⟨rfl, hb3⟩
        have hc3 : w3.cell? ⟨b, o + k, none⟩ = some (.string ⟨x.toArray⟩) := by rw [hb3.cell (p := ⟨b, o + k, none⟩) hb1]; exact hc1
        go_wp2
        go_roundw
        case rel =>
         refine ⟨k + 1, _, by omega, by go_num, rfl, ?_, ?_, ?_, hbw.trans (hb3.mono hbw.size)⟩
         · have ht : ns.take (k + 1) = ns.take k ++ [x] := by
            rw [List.take_add_one, HKX.out]; rfl
           rw [ht, pathOf_snoc, ← HP.out]
           simp [ByteArray.data_append]
         · rw [ByteArray.size_append, ByteArray.size_append, Lib.size_eq ⟨x.toArray⟩, ba_data]
           show _ + 1 + _ ≤ _
           omega
         · intro j y hj hjy
           by_cases e : j = k
           · subst e; rw [HKX.out] at hjy; cases hjy; exact HCB.out
           · exact HA.out j y (by omega) hjy
        case measure => simp [intOf]; omega
    · have hkn : k = ns.length := by omega
      have hP := HP.out
      rw [hkn, List.take_length] at hP
      have hfin : joinP ns = some (if pathOf ns = [] then [47] else pathOf ns) := joinP_yes h16' (by
       rw [List.all_eq_true]
       intro x hx
       obtain ⟨j, hj, e⟩ := List.getElem_of_mem hx
       exact HA.out j x (by omega) (by rw [List.getElem?_eq_getElem hj, e]))
      by_cases he : pathOf ns = []
      · have hpe : P.toList.isEmpty = true := by rw [Lib.toList_data, hP, he]; rfl
        rw [if_pos he] at hfin
        have HF := Lib.hid hfin
        clear hfin he hP
        go_wp2
        go_ret2
        exact ⟨by rw [joinE, joinT, HF.out]; rfl, hbw⟩
      · have hpe : P.toList.isEmpty = false := by
         rw [Lib.toList_data, hP]
         cases h : pathOf ns with
         | nil => exact absurd h he
         | cons _ _ => rfl
        rw [if_neg he, ← hP] at hfin
        have HF := Lib.hid hfin
        clear hfin he hP
        go_wp2
        go_ret2
        exact ⟨by rw [joinE, joinT, HF.out, Option.getD_some, sv_data]; rfl, hbw⟩
end Go.Proofs.YtnkapojbijbbaaaGreatDoor.Nm
namespace Go.Proofs.YtnkapojbijbbaaaGreatDoor.Sr
open Go.RowKit Go.Maps Go.WideMaps Rf Go.Proofs.YtnkapojbijbbaaaGreatDoor.Nm St
def root0 : RN := ⟨[], 1, 0, ⟨2, 493, 0, 0, 0, [], []⟩, [], .slice none 0 0, .slice none 0 0⟩
def newF : Tr := ⟨[root0.te], 0, 1, 0⟩
theorem rnew_any (w : World) :
 Calls Tryz.prog 6 #[] w fun e w' => ∃ r v R, e = .returned (ptr r) ∧ RTree w.heap.size w' r v R newF ∧ Below w.heap.size w w' ∧ ∀ b ∈ rblk r v R, w.heap.size ≤ b := by
 go_enter Tryz.func6, Tryz.ntmps6
 go_wp2
 go_ret
 obtain ⟨W1, hW1⟩ : ∃ W1, W1 = w.alloc (.cells root0.cells.toArray RnT) := ⟨_, rfl⟩
 have hs1 : W1.heap.size = w.heap.size + 1 := by rw [hW1, one_size]
 have hq1 : W1.heap[w.heap.size]? = some (.cells root0.cells.toArray RnT) := by rw [hW1]; exact (MapKept.heap_alloc w _).1
 have hb1 : Below w.heap.size w W1 := by rw [hW1]; exact (Below.refl _ _).alloc (Nat.le_refl _) _
 obtain ⟨W2, hW2⟩ : ∃ W2, W2 = W1.alloc (.cells #[.slice (some ⟨w.heap.size, 0, none⟩) 1 1, .int .i64 0, .int .u64 1, .int .i64 0] RtT) := ⟨_, rfl⟩
 have hq2 : W2.heap[w.heap.size + 1]? = some (.cells #[.slice (some ⟨w.heap.size, 0, none⟩) 1 1, .int .i64 0, .int .u64 1, .int .i64 0] RtT) := by rw [hW2, ← hs1]; exact (MapKept.heap_alloc W1 _).1
 have hq12 : W2.heap[w.heap.size]? = some (.cells root0.cells.toArray RnT) := by rw [hW2]; exact at_alloc hq1 _
 have hb2 : Below w.heap.size w W2 := by rw [hW2]; exact hb1.alloc (by rw [hs1]; omega) _
 have key : ∃ r v R, Ending.returned (.pointer (some ⟨w.heap.size + 1, 0, none⟩)) = .returned (ptr r) ∧ RTree w.heap.size W2 r v R newF ∧ Below w.heap.size w W2 ∧ ∀ b ∈ rblk r v R, w.heap.size ≤ b := by
  refine ⟨w.heap.size + 1, .slice (some ⟨w.heap.size, 0, none⟩) 1 1, [root0], rfl, ⟨hq2, ?_, ?_, by omega, ?_, ?_, rfl⟩, hb2, ?_⟩
  · exact ⟨rfl, .inr ⟨w.heap.size, 1, root0.cells.toArray, rfl, Nat.le_refl _, hq12, Nat.le_refl _, by decide, rfl, rfl⟩⟩
  · intro x hx; simp [ob, Value.ownBlock] at hx; omega
  · intro n hn
    obtain rfl := List.mem_singleton.1 hn
    exact ⟨⟨rowS_nil _ _ _ _, by intro x hx; cases hx⟩, ⟨none, 0, rfl, Nat.zero_le _, (by intro x hx; cases hx), fun h => absurd rfl h⟩⟩
  · intro b hb; simp [robL, robN, root0, ob, Value.ownBlock, xob] at hb
  · intro b hb
    rw [rblk, List.mem_cons, List.mem_append] at hb
    rcases hb with rfl | hb | hb
    · omega
    · simp [ob, Value.ownBlock] at hb; omega
    · simp [robL, robN, root0, ob, Value.ownBlock, xob] at hb
 rw [hW2, hW1] at key
 exact key
theorem rpath_any (B : Nat) (w : World) (n : RN) (hT : Tabs w) (hP : PathAt B w n.nv n.nm) (h16 : n.nm.length ≤ 16) (hc : ∀ s ∈ n.nm, chk s = true) :
 Calls Tryz.prog 42 #[rnV n] w fun e w' => e = .returned (.string ⟨(pathN n.nm).toArray⟩) ∧ Below w.heap.size w w' := by
 obtain ⟨W, hW⟩ : ∃ W, W = w.alloc (.cells n.cells.toArray RnT) := ⟨_, rfl⟩
 have hb0 : Below w.heap.size w W := by rw [hW]; exact (Below.refl _ _).alloc (Nat.le_refl _) _
 have hq0 : W.heap[w.heap.size]? = some (.cells n.cells.toArray RnT) := by rw [hW]; exact (MapKept.heap_alloc w _).1
 obtain ⟨na, nc, hnv⟩ := rowS_slice hP.row
 have c0 : (w.alloc (.cells n.cells.toArray RnT)).cell? ⟨w.heap.size, 0, none⟩ = some (.slice na n.nm.length nc) := by rw [← hW, ← hnv]; exact cell_of_heap hq0
 have JO := ref_join n.nv n.nm W (hT.below hb0) (Nm.StrsAt.of_owns (hP.below hb0).row)
 have HJ := joinP_yes h16 (List.all_eq_true.2 hc)
 have JO : Calls Tryz.prog 78 #[.slice na n.nm.length nc] W fun e w' => e = .returned (.tuple #[sv (pathN n.nm), .int .i64 0]) ∧ Below W.heap.size W w' := by
  have h := JO
  rw [hnv] at h
  refine h.mono ?_
  rintro e w' ⟨h1, h2⟩
  refine ⟨?_, h2⟩
  rw [h1, joinT, joinE, HJ]; rfl
 have JO := Lib.hid JO
 have HB0 := Lib.hid hb0; have HW := Lib.hid hW
 have HPN : Hid ((some (if pathOf n.nm = [] then [47] else pathOf n.nm)).getD [] = pathN n.nm) := Lib.hid rfl
 clear hb0 hq0 hW hT hP hnv
 unfold rnV
 go_enter Tryz.func42, Tryz.ntmps42
 go_wp2_with fail
 rw [← HW.out]
 refine JO.out.mono ?_
 rintro ex w1 ⟨rfl, hb1⟩
 have HB1 := Lib.hid (HB0.out.trans (hb1.mono HB0.out.size))
 clear hb1 JO
 go_wp2
 go_ret
 exact ⟨rfl, HB1.out⟩
end Go.Proofs.YtnkapojbijbbaaaGreatDoor.Sr
