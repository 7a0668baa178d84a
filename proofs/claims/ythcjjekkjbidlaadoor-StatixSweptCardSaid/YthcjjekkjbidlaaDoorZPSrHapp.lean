import Derived.Test.YthcjjekkjbidlaaDoorZPSrRead
import Derived.Test.YthcjjekkjbidlaaDoorZPSrMove
import Derived.Test.YthcjjekkjbidlaaDoorZPStStep
import Derived.Test.YthcjjekkjbidlaaDoorZPStDrop
import Derived.Test.YthcjjekkjbidlaaDoorZPStRead
set_option linter.unusedSimpArgs false
set_option linter.unusedVariables false
/-
  The contracts of Folder, and of the statements' happens.
-/
namespace Go.Proofs.YthcjjekkjbidlaaDoor.Sr
open Go.RowKit Go.Maps Go.WideMaps Go.Proofs.YthcjjekkjbidlaaDoor.Rf Go.Proofs.YthcjjekkjbidlaaDoor.Nm Go.Proofs.YthcjjekkjbidlaaDoor.St

set_option linter.unusedSimpArgs false in
set_option maxHeartbeats 4000000 in
set_option maxRecDepth 100000 in
theorem folder_any (B : Nat) (w : World) (r : Nat) (T : Tr) (p : List UInt8) (A : XA) (v : Value) (hp : p.length ≤ 4611686018427387904) (hv : XsAt w v A.xs) (hvr : ∀ b ∈ xob A.xs v, b ≠ r) (hmost : T.most < 18446744073709551615) (h : TreeAt B w r T) :
    Calls Tryd.prog 19 #[ptr r, .string ⟨p.toArray⟩, .agg (A.cells v).toArray] w fun e w' => ∃ W, Below w.heap.size w W ∧ TreeAt B W r T ∧ AddPost B W r T p [] (asFold A) e w' := by
  obtain ⟨W, hW⟩ : ∃ W, W = w.alloc (.cells (((A.cells v).set 0 (.int .u8 2)).set 5 (.string ⟨#[]⟩)).toArray AtT) := ⟨_, rfl⟩
  have q2 : W.heap[w.heap.size]? = some (.cells ((asFold A).cells v).toArray AtT) := by rw [hW]; exact (MapKept.heap_alloc w _).1
  have hb : Below w.heap.size w W := by rw [hW]; exact (Below.refl _ _).alloc (Nat.le_refl _) _
  have q0 : (w.alloc (.cells (A.cells v).toArray AtT)).heap[w.heap.size]? = some (.cells (A.cells v).toArray AtT) := (MapKept.heap_alloc w _).1
  have hT := h.below hb
  have hX : XsAt W v (asFold A).xs := hv.kept hb.size (fun b hb' => hb.block b (hv.lt b hb'))
  have AD := Lib.hid (add_any B W r T p [] (asFold A) v hp (by simp) hX hvr hmost hT)
  have HQ2 : Hid (W.heap[w.heap.size]? = some (.cells ((asFold A).cells v).toArray AtT)) := Lib.hid q2
  have HB := Lib.hid hb; have HT := Lib.hid hT; have HW := Lib.hid hW
  have k0 : (w.alloc (.cells (A.cells v).toArray AtT)).cell? ⟨w.heap.size, 0, none⟩ = some (.int .u8 (A.node : Int)) := cell_of_heap q0
  have f0 : (w.alloc (.cells (A.cells v).toArray AtT)).frozen? ⟨w.heap.size, 0, none⟩ = false := frozen_of_heap q0
  unfold ptr at *
  clear h hv hvr hmost hT hX q0 q2 hb hW
  go_enter Tryd.func19, Tryd.ntmps19
  go_wp2_with (first
    | (refine Sh.wpList_load_at (T := AtT) (cs := ((asFold A).cells v).toArray) (by rw [← HW.out]; exact HQ2.out) rfl AtT (.tmp 5) rfl rfl _ Tryd.underlying42 rfl (infoAt _ _) ?_)
    | fail)
  rw [← HW.out]
  refine AD.out.mono ?_
  rintro ex w1 ⟨rfl, hno, hyes⟩
  have HNO := Lib.hid hno; have HYES := Lib.hid hyes
  clear hno hyes AD
  go_wp2
  go_ret
  exact ⟨W, HB.out, HT.out, rfl, HNO.out, HYES.out⟩
theorem ChT.reads {T T' : Tr} (h : ChT T T') : T'.reads = T.reads := by cases h <;> rfl
theorem addE_big {p d : List UInt8} {A : XA} {T : Tr} (h : 1048576 < d.length) : addE p d A T ≠ 0 := by
  rw [addE]
  split
  · decide
  · rw [if_pos (.inr h)]; decide
theorem splitL_16 (p : List UInt8) : (splitL p).length ≤ 16 := by
  rw [splitL]
  cases hs : splitP p with
  | none => simp
  | some l =>
    show l.length ≤ _
    rw [splitP] at hs
    split at hs
    · obtain rfl := Option.some.inj hs; simp
    · split at hs
      · next hc =>
        obtain rfl := Option.some.inj hs
        simp only [Bool.and_eq_true, decide_eq_true_eq] at hc
        obtain ⟨t, rfl⟩ := (hasPrefix_one p).1 hc.1.1
        have h2 := hc.1.2
        rw [List.count_cons_self] at h2
        rw [parts_count]
        simp only [List.drop_succ_cons, List.drop_zero]
        omega
      · cases hs
/-- Only a mode. -/
def modeA (m : Nat) : XA := ⟨0, m, 0, 0, 0, [], []⟩
theorem mode_xs (w : World) (m : Nat) : XsAt w (.slice none 0 0) (modeA m).xs := ⟨none, 0, rfl, Nat.zero_le _, by simp [modeA], by simp [modeA]⟩
/-- What Write leaves, as a call's. -/
theorem write_call {B : Nat} {w w' : World} {r : Nat} {T : Tr} {p d : List UInt8} {k : Nat} (h : TreeAt B w r T) (g : Good k T) (ht : TreeAt B w' r (writeT p d T)) (hu : Turn (r :: ownL T.L) w w') : CallT B w r T w' (writeT p d T) := by
  have key : writeT p d T = T ∨ ∃ n, n ∈ T.L ∧ d.length ≤ 1048576 ∧ T.clock < 1099511627776 ∧ writeT p d T = { T with clock := T.clock + 1, L := tickT [n.p] ((T.clock + 1 : Nat) : Int) (updT { n with data := d } T.L) } := by
    rw [writeT]
    by_cases h0 : writeE p d T = 0
    · rw [if_pos h0]
      cases hg : getT (splitL p) T.L with
      | none => exact .inl rfl
      | some n =>
        refine .inr ⟨n, (getT_nm hg).1, ?_, ?_, rfl⟩
        · rw [writeE] at h0
          split at h0
          · cases h0
          · split at h0
            · cases h0
            · omega
        · rw [writeE, hg] at h0
          split at h0
          · cases h0
          · split at h0
            · cases h0
            · dsimp only at h0
              split at h0
              · cases h0
              · split at h0
                · cases h0
                · omega
    · rw [if_neg h0]; exact .inl rfl
  rcases key with hk | ⟨n, hn, hd, hc, hk⟩
  · rw [hk] at ht ⊢
    exact ⟨ht, hu, fun _ h => .inl h, .same T⟩
  · rw [hk] at ht ⊢
    have hinj : ∀ x ∈ T.L, x.p = n.p → x = n := fun x hx hxp => h.p_inj hx hn hxp
    have hown : ownL (updT { n with data := d } T.L) = ownL T.L := ownL_map (updT_facts hinj rfl rfl rfl)
    refine ⟨ht, hu, fun b hb => .inl ?_, .upd n { n with data := d } hn ⟨rfl, rfl, rfl, rfl, rfl, rfl⟩ hc hd (g.att n hn)⟩
    rw [List.mem_append] at hb ⊢
    rcases hb with hb | hb
    · have hb : b ∈ ownL (tickT [n.p] _ (updT { n with data := d } T.L)) := hb
      rw [own_tickT, hown] at hb
      exact .inl hb
    · obtain ⟨x', hx', hb⟩ := List.mem_flatMap.1 hb
      have : ∃ x ∈ updT { n with data := d } T.L, b ∈ xob x.at_.xs x.xv := by
        obtain ⟨x, hx, rfl | rfl⟩ := tickT_mem hx'
        · exact ⟨_, hx, hb⟩
        · exact ⟨x, hx, hb⟩
      obtain ⟨x, hx, hb⟩ := this
      obtain ⟨y, hy, rfl⟩ := List.mem_map.1 hx
      split at hb
      · exact .inr (List.mem_flatMap.2 ⟨n, hn, hb⟩)
      · exact .inr (List.mem_flatMap.2 ⟨y, hy, hb⟩)
/-- What a change leaves. -/
def HapPost (B : Nat) (w : World) (r : Nat) (T : Tr) (e : Ending) (w' : World) : Prop := e = .returned (.bool true) ∧ ∃ T', CallT B w r T w' T'
set_option linter.unusedSimpArgs false in
set_option maxHeartbeats 8000000 in
set_option maxRecDepth 100000 in
theorem happens_any (B : Nat) (w : World) (r : Nat) (T : Tr) (k : Int) (p m : List UInt8) (t : Nat) (ht : t < 4294967296) (hp : p.length ≤ 4611686018427387904) (hm : m.length ≤ 4611686018427387904) (n : Nat) (hn : n ≤ 1000) (hG : Good n T) (hB : B ≤ w.heap.size) (h : TreeAt B w r T) :
    Calls Tryd.prog 23 #[ptr r, .agg #[.int .i64 k, .string ⟨p.toArray⟩, .string ⟨m.toArray⟩, .int .u32 (t : Int)]] w (HapPost B w r T) := by
  obtain ⟨W, hW⟩ : ∃ W, W = w.alloc (.cells #[.int .i64 k, .string ⟨p.toArray⟩, .string ⟨m.toArray⟩, .int .u32 (t : Int)] 53) := ⟨_, rfl⟩
  have hb0 : Below w.heap.size w W := by rw [hW]; exact (Below.refl _ _).alloc (Nat.le_refl _) _
  have H0 := Lib.hid (h.below hb0)
  have HB0 := Lib.hid hb0; have HG := Lib.hid hG; have HW := Lib.hid hW; have HBS := Lib.hid (Nat.le_trans hB hb0.size)
  have hmost : T.most < 18446744073709551615 := by have := hG.most; omega
  have HRE : Hid (∀ w' T', CallT B W r T w' T' → HapPost B w r T (.returned (.bool true)) w') := Lib.hid (fun w' T' hc => ⟨rfl, T', hc.tree, (Turn.of_below hb0).trans hc.turn (fun y hy => .inl hy), fun b hb => (hc.own b hb).imp id (fun h => Nat.le_trans hb0.size h), hc.ch⟩)
  have hr : IntKind.u32.wrap ((t : Int) % 512) = ((t % 512 : Nat) : Int) := by rw [IntKind.wrap_u32]; omega
  have ht2 : ((t % 512 : Nat) : Int) = (t : Int) % 512 := by omega
  clear h hb0 hG hB
  by_cases e0 : k = 0
  · subst e0
    have CL := Lib.hid (folder_any B W r T p (modeA (t % 512)) (.slice none 0 0) hp (mode_xs _ _) (by simp [modeA, xob]) hmost H0.out)
    unfold ptr at *
    go_enter Tryd.func23, Tryd.ntmps23
    go_wp2_with fail
    rw [← ht2]
    rw [← HW.out]
    refine CL.out.mono ?_
    rintro ex w1 ⟨W2, hbW, htW, hpost⟩
    obtain ⟨rfl, T', hct, _, _⟩ := hpost.call H0.out hbW (.inl (by simp)) (splitL_16 p)
    have HCT := Lib.hid hct
    clear hpost hct hbW htW
    clear CL
    go_wp2
    go_ret
    exact HRE.out _ _ HCT.out
  have b0 : ((k : Int) == 0) = false := by rw [beq_eq_false_iff_ne]; exact e0
  by_cases e1 : k = 1
  · subst e1
    have CL := Lib.hid (file_any B W r T p m (modeA (t % 512)) (.slice none 0 0) hp hm (mode_xs _ _) (by simp [modeA, xob]) hmost H0.out)
    unfold ptr at *
    go_enter Tryd.func23, Tryd.ntmps23
    go_wp2_with fail
    rw [← ht2]
    rw [← HW.out]
    refine CL.out.mono ?_
    rintro ex w1 ⟨W2, hbW, htW, hpost⟩
    obtain ⟨rfl, T', hct, _, _⟩ := hpost.call H0.out hbW (by by_cases hb : m.length ≤ 1048576; exact .inl hb; exact .inr (addE_big (by omega))) (splitL_16 p)
    have HCT := Lib.hid hct
    clear hpost hct hbW htW
    clear CL
    go_wp2
    go_ret
    exact HRE.out _ _ HCT.out
  have b1 : ((k : Int) == 1) = false := by rw [beq_eq_false_iff_ne]; exact e1
  by_cases e2 : k = 2
  · subst e2
    have CL := Lib.hid (write_any B W r T p m hp hm H0.out)
    unfold ptr at *
    go_enter Tryd.func23, Tryd.ntmps23
    go_wp2_with fail
    rw [← HW.out]
    refine CL.out.mono ?_
    rintro ex w1 ⟨rfl, ht1, hu1⟩
    have HCT := Lib.hid (write_call H0.out HG.out ht1 hu1)
    clear ht1 hu1
    clear CL
    go_wp2
    go_ret
    exact HRE.out _ _ HCT.out
  have b2 : ((k : Int) == 2) = false := by rw [beq_eq_false_iff_ne]; exact e2
  by_cases e3 : k = 3
  · subst e3
    have CL := Lib.hid (move_any B W r T p m hp hm HG.out.deep (by have := HG.out.len; omega) H0.out)
    unfold ptr at *
    go_enter Tryd.func23, Tryd.ntmps23
    go_wp2_with fail
    rw [← HW.out]
    refine CL.out.mono ?_
    rintro ex w1 ⟨rfl, hct⟩
    have HCT := Lib.hid hct
    clear hct
    clear CL
    go_wp2
    go_ret
    exact HRE.out _ _ HCT.out
  have b3 : ((k : Int) == 3) = false := by rw [beq_eq_false_iff_ne]; exact e3
  by_cases e4 : k = 4
  · subst e4
    have CL := Lib.hid (drop_any B W r T p hp H0.out)
    unfold ptr at *
    go_enter Tryd.func23, Tryd.ntmps23
    go_wp2_with fail
    rw [← HW.out]
    refine CL.out.mono ?_
    rintro ex w1 ⟨rfl, hct⟩
    have HCT := Lib.hid hct
    clear hct
    clear CL
    go_wp2
    go_ret
    exact HRE.out _ _ HCT.out
  have b4 : ((k : Int) == 4) = false := by rw [beq_eq_false_iff_ne]; exact e4
  by_cases e5 : k = 5
  · subst e5
    have CL := Lib.hid (attr_any B W r T p hp (modeA (t % 512)) (.slice none 0 0) (mode_xs _ _) HG.out.data HBS.out H0.out)
    unfold ptr at *
    go_enter Tryd.func23, Tryd.ntmps23
    go_wp2_with fail
    rw [← ht2]
    rw [← HW.out]
    refine CL.out.mono ?_
    rintro ex w1 ⟨rfl, T', hct, _, _⟩
    have HCT := Lib.hid hct
    clear hct
    clear CL
    go_wp2
    go_ret
    exact HRE.out _ _ HCT.out
  have b5 : ((k : Int) == 5) = false := by rw [beq_eq_false_iff_ne]; exact e5
  unfold ptr at *
  go_enter Tryd.func23, Tryd.ntmps23
  go_wp2
  go_ret
  have HX := HRE.out W T (.same H0.out (Below.refl _ _))
  rw [HW.out] at HX
  exact HX
end Go.Proofs.YthcjjekkjbidlaaDoor.Sr
/-
  The law's id: a text's first 32 bytes, filled with noughts.
-/
namespace Go.Proofs.YthcjjekkjbidlaaDoor.St
open Go.RowKit Go.Maps Go.WideMaps Go.Proofs.YthcjjekkjbidlaaDoor.Rf Go.Proofs.YthcjjekkjbidlaaDoor.Rd

def idOf (l : List UInt8) : List UInt8 := l.take 32 ++ List.replicate (32 - (l.take 32).length) 0
theorem idOf_length (l : List UInt8) : (idOf l).length = 32 := by simp [idOf]; omega
theorem buf_id (l : List UInt8) : buf (l.take 32) 32 = (Lib.byteCells (idOf l)).toArray := by
  rw [buf, idOf, Lib.byteCells, Lib.byteCells, List.map_append]
  congr 2
  rw [List.map_replicate]; rfl

set_option maxHeartbeats 4000000 in
set_option maxRecDepth 100000 in
theorem id_any (w : World) (l : List UInt8) (hl : l.length ≤ maxLen) :
    Calls Tryd.prog 52 #[.string ⟨l.toArray⟩] w fun e w' => e = .returned (.agg (Lib.byteCells (idOf l)).toArray) ∧ Below w.heap.size w w' := by
  have hs : (⟨l.toArray⟩ : ByteArray).size = l.length := rfl
  have HLN := Lib.hid hl
  obtain ⟨W, hW⟩ : ∃ W, W = (w.alloc (.cells (buf [] 32) 63)).alloc (.cells (buf [] 32) 63) := ⟨_, rfl⟩
  have hb0 : Below w.heap.size w W := by rw [hW]; exact ((Below.refl _ _).alloc (Nat.le_refl _) _).alloc (by rw [one_size]; omega) _
  have hq0 : W.heap[w.heap.size]? = some (.cells (buf [] 32) 63) := by rw [hW]; exact at_alloc (MapKept.heap_alloc w _).1 _
  have hq1 : W.heap[w.heap.size + 1]? = some (.cells (buf [] 32) 63) := by
    have := (MapKept.heap_alloc (w.alloc (.cells (buf [] 32) 63)) (.cells (buf [] 32) 63)).1
    rw [one_size] at this
    rw [hW]; exact this
  have HB0 := Lib.hid hb0; have HQ0 := Lib.hid hq0; have HQ1 := Lib.hid hq1; have HW := Lib.hid hW
  clear hb0 hq0 hq1 hW hl
  have hI32 : Hid ((Tryd.prog.info? 63).map (·.size) = some (Lib.byteCells (idOf l)).length) := Lib.hid (by rw [Lib.byteCells_length, idOf_length]; kernel_rfl)
  have hJ32 : Hid ((Tryd.prog.info? 63).map (·.size) = some (Lib.byteCells (idOf l)).toArray.size) := Lib.hid (by rw [List.size_toArray]; exact hI32.out)
  have hK32 : Hid ((buf [] 32).size = (Lib.byteCells (idOf l)).toArray.size) := Lib.hid (by rw [buf_size [] 32 (by decide), List.size_toArray, Lib.byteCells_length, idOf_length])
  have hone : Hid ((Lib.byteCells (idOf l)).toArray.all (·.oneCell') = true) := Lib.hid (Array.all_eq_true_iff_forall_mem.2 (fun u hu => by
    simp only [List.mem_toArray, Lib.byteCells, List.mem_map] at hu
    obtain ⟨b, _, rfl⟩ := hu; rfl))
  go_enter Tryd.func52, Tryd.ntmps52
  go_wp2
  go_loopw [4] (fun vi wr => ∃ i : Nat, i ≤ l.length ∧ i ≤ 32 ∧ vi = .int .i64 (i : Int) ∧ Hid (Below w.heap.size w wr ∧ wr.heap[w.heap.size]? = some (.cells (buf [] 32) 63) ∧ wr.heap[w.heap.size + 1]? = some (.cells (buf (l.take i) 32) 63))) (fun vi _ => 32 - (RowKit.intOf vi).toNat)
  case atStart =>
    refine ⟨0, Nat.zero_le _, by omega, rfl, Lib.hid ?_⟩
    change Below w.heap.size w ((w.alloc (.cells (buf [] 32) 63)).alloc (.cells (buf [] 32) 63)) ∧ ((w.alloc (.cells (buf [] 32) 63)).alloc (.cells (buf [] 32) 63)).heap[w.heap.size]? = _ ∧ ((w.alloc (.cells (buf [] 32) 63)).alloc (.cells (buf [] 32) 63)).heap[w.heap.size + 1]? = _
    rw [← HW.out]
    exact ⟨HB0.out, HQ0.out, HQ1.out⟩
  case round =>
    obtain ⟨i, hil, hi32, rfl, HR⟩ := hrel
    by_cases h1 : (i : Int) < (l.length : Int)
    · by_cases h2 : (i : Int) < 32
      · have hil' : i < l.length := by omega
        obtain ⟨b, hb⟩ : ∃ b, b = l[i] := ⟨_, rfl⟩
        have hidx : (⟨l.toArray⟩ : ByteArray)[i]'(by rw [hs]; omega) = b := by rw [hb]; rfl
        have hlt : w.heap.size + 1 < wr.heap.size := lt_of_heap HR.out.2.2
        have hck : wr.cell? ⟨w.heap.size + 1, i, none⟩ = some (.int .u8 0) := by
          rw [cell_of_heap HR.out.2.2]
          have := buf_get (l.take i) 32 (by rw [List.length_take]; omega)
          rwa [List.length_take, Nat.min_eq_left hil] at this
        have hfz : wr.frozen? ⟨w.heap.size + 1, i, none⟩ = false := frozen_of_heap HR.out.2.2
        have HN : Hid (Below w.heap.size w (wr.setCell ⟨w.heap.size + 1, i, none⟩ (.int .u8 (b.toNat : Int))) ∧ (wr.setCell ⟨w.heap.size + 1, i, none⟩ (.int .u8 (b.toNat : Int))).heap[w.heap.size]? = some (.cells (buf [] 32) 63) ∧ (wr.setCell ⟨w.heap.size + 1, i, none⟩ (.int .u8 (b.toNat : Int))).heap[w.heap.size + 1]? = some (.cells (buf (l.take (i + 1)) 32) 63)) := Lib.hid (by
          refine ⟨HR.out.1.setCell (p := ⟨w.heap.size + 1, i, none⟩) (Nat.le_succ _) _, (Below.heap_setCell _ _ _ _ (by simp)).trans HR.out.2.1, ?_⟩
          rw [setCell_heap _ _ _ _ _ _ HR.out.2.2]
          have := buf_set (l.take i) 32 b (by rw [List.length_take]; omega)
          rw [List.length_take, Nat.min_eq_left hil] at this
          rw [this, List.take_add_one, List.getElem?_eq_getElem hil', hb]; rfl)
        clear hb
        go_wp2
        go_roundw
        case rel => exact ⟨i + 1, by omega, by omega, by simp, HN⟩
        case measure => simp [RowKit.intOf]; omega
      · obtain rfl : i = 32 := by omega
        have hti : Hid (l.take 32 = l.take 32) := Lib.hid rfl
        have hr := HR.out
        have hrg : wr.rangeAt (w.heap.size + 1) 0 (Lib.byteCells (idOf l)) := by
          have := range_block hr.2.2
          rw [hti.out, buf_id] at this
          exact this
        have HRG := Lib.hid hrg
        have HQ := Lib.hid hr.2.1
        have HB := Lib.hid hr.1
        clear hr hrg HR
        go_wp2_with (first
          | (refine wpList_load_mid rfl _ _ rfl (w.heap.size + 1) 0 rfl (Lib.byteCells (idOf l)) _ HRG.out Tryd.underlying63 rfl hI32.out ?_)
          | (refine wpList_store_at HQ.out rfl _ _ _ rfl (Lib.byteCells (idOf l)).toArray rfl rfl hJ32.out hK32.out hone.out ?_
             intro w3 hq3 ht3 hs3
             have HQ3 := Lib.hid hq3; have HT3 := Lib.hid ht3
             clear hq3 ht3 hs3))
        refine bodyPost_ret (v := .agg (Lib.byteCells (idOf l)).toArray) (results_cell_row (fn := Tryd.f52) rfl _ _ w.heap.size _ _ _ _ rfl HQ3.out Tryd.underlying63 rfl hJ32.out) rfl ?_
        exact ⟨rfl, HB.out.trans (HT3.out.below (by simp) HB.out.size)⟩
    · have hti : Hid (l.take i = l.take 32) := Lib.hid (by rw [List.take_of_length_le (by omega), List.take_of_length_le (by omega)])
      have hr := HR.out
      have hrg : wr.rangeAt (w.heap.size + 1) 0 (Lib.byteCells (idOf l)) := by
        have := range_block hr.2.2
        rw [hti.out, buf_id] at this
        exact this
      have HRG := Lib.hid hrg
      have HQ := Lib.hid hr.2.1
      have HB := Lib.hid hr.1
      clear hr hrg HR
      go_wp2_with (first
        | (refine wpList_load_mid rfl _ _ rfl (w.heap.size + 1) 0 rfl (Lib.byteCells (idOf l)) _ HRG.out Tryd.underlying63 rfl hI32.out ?_)
        | (refine wpList_store_at HQ.out rfl _ _ _ rfl (Lib.byteCells (idOf l)).toArray rfl rfl hJ32.out hK32.out hone.out ?_
           intro w3 hq3 ht3 hs3
           have HQ3 := Lib.hid hq3; have HT3 := Lib.hid ht3
           clear hq3 ht3 hs3))
      refine bodyPost_ret (v := .agg (Lib.byteCells (idOf l)).toArray) (results_cell_row (fn := Tryd.f52) rfl _ _ w.heap.size _ _ _ _ rfl HQ3.out Tryd.underlying63 rfl hJ32.out) rfl ?_
      exact ⟨rfl, HB.out.trans (HT3.out.below (by simp) HB.out.size)⟩
end Go.Proofs.YthcjjekkjbidlaaDoor.St
