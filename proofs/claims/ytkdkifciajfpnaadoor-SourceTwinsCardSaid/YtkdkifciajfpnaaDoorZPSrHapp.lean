import Derived.Test.YtkdkifciajfpnaaDoorZPSrRead
import Derived.Test.YtkdkifciajfpnaaDoorZPSrAttr
import Derived.Test.YtkdkifciajfpnaaDoorZPSrMove
import Derived.Test.YtkdkifciajfpnaaDoorZPSrVw
import Derived.Test.YtkdkifciajfpnaaDoorZPSrChanged
import Derived.Test.YtkdkifciajfpnaaDoorZPSrWrite
set_option linter.unusedSimpArgs false
set_option linter.unusedVariables false
/-
  The contracts of Folder, and of the statements' happens.
-/
namespace Go.Proofs.YtkdkifciajfpnaaDoor.Sr
open Go.RowKit Go.Maps Go.WideMaps Go.Proofs.YtkdkifciajfpnaaDoor.Rf Go.Proofs.YtkdkifciajfpnaaDoor.Nm Go.Proofs.YtkdkifciajfpnaaDoor.St

set_option linter.unusedSimpArgs false in
set_option maxHeartbeats 4000000 in
set_option maxRecDepth 100000 in
theorem folder_any (B : Nat) (w : World) (r : Nat) (T : Tr) (p : List UInt8) (A : XA) (v : Value) (hp : p.length ≤ 4611686018427387904) (hv : XsAt w v A.xs) (hvr : ∀ b ∈ xob A.xs v, b ≠ r) (hmost : T.most < 18446744073709551615) (h : TreeAt B w r T) :
    Calls Tryd.prog 14 #[ptr r, .string ⟨p.toArray⟩, .agg (A.cells v).toArray] w fun e w' => ∃ W, Below w.heap.size w W ∧ TreeAt B W r T ∧ AddPost B W r T p [] (asFold A) e w' := by
  obtain ⟨W, hW⟩ : ∃ W, W = w.alloc (.cells (((A.cells v).set 0 (.int .u8 2)).set 5 (.string ⟨#[]⟩)).toArray AtT) := ⟨_, rfl⟩
  have q2 : W.heap[w.heap.size]? = some (.cells ((asFold A).cells v).toArray AtT) := by rw [hW]; exact (MapKept.heap_alloc w _).1
  have hb : Below w.heap.size w W := by rw [hW]; exact (Below.refl _ _).alloc (Nat.le_refl _) _
  have q0 : (w.alloc (.cells (A.cells v).toArray AtT)).heap[w.heap.size]? = some (.cells (A.cells v).toArray AtT) := (MapKept.heap_alloc w _).1
  have hT := h.below hb
  have hX : XsAt W v (asFold A).xs := hv.kept hb.size (fun b hb' => hb.block b (hv.lt b hb'))
  have AD := Lib.hid (add_any B W r T p [] (asFold A) v hp (by simp) hX hvr hmost hT)
  have HQ2 : Hid (W.heap[w.heap.size]? = some (.cells ((asFold A).cells v).toArray AtT)) := Lib.hid q2
  have HB := Lib.hid hb; have HT := Lib.hid hT; have HW := Lib.hid hW
  have k0 : (w.alloc (.cells (A.cells v).toArray AtT)).cell? ⟨w.heap.size, 0, none⟩ = some (.int .u8 (A.node : Int)) := cell_of_heap q0
  have f0 : (w.alloc (.cells (A.cells v).toArray AtT)).frozen? ⟨w.heap.size, 0, none⟩ = false := frozen_of_heap q0
  unfold ptr at *
  clear h hv hvr hmost hT hX q0 q2 hb hW
  go_enter Tryd.func14, Tryd.ntmps14
  go_wp2_with (first
    | (refine Sh.wpList_load_at (T := AtT) (cs := ((asFold A).cells v).toArray) (by rw [← HW.out]; exact HQ2.out) rfl AtT (.tmp 5) rfl rfl _ Tryd.underlying42 rfl (infoAt _ _) ?_)
    | fail)
  rw [← HW.out]
  refine AD.out.mono ?_
  rintro ex w1 ⟨rfl, hno, hyes⟩
  have HNO := Lib.hid hno; have HYES := Lib.hid hyes
  clear hno hyes AD
  go_wp2
  go_ret
  exact ⟨W, HB.out, HT.out, rfl, HNO.out, HYES.out⟩
theorem ChT.reads {T T' : Tr} (h : ChT T T') : T'.reads = T.reads := by cases h <;> rfl
theorem addE_big {p d : List UInt8} {A : XA} {T : Tr} (h : 1048576 < d.length) : addE p d A T ≠ 0 := by
  rw [addE]
  split
  · decide
  · rw [if_pos (.inr h)]; decide
theorem splitL_16 (p : List UInt8) : (splitL p).length ≤ 16 := by
  rw [splitL]
  cases hs : splitP p with
  | none => simp
  | some l =>
    show l.length ≤ _
    rw [splitP] at hs
    split at hs
    · obtain rfl := Option.some.inj hs; simp
    · split at hs
      · next hc =>
        obtain rfl := Option.some.inj hs
        simp only [Bool.and_eq_true, decide_eq_true_eq] at hc
        obtain ⟨t, rfl⟩ := (hasPrefix_one p).1 hc.1.1
        have h2 := hc.1.2
        rw [List.count_cons_self] at h2
        rw [parts_count]
        simp only [List.drop_succ_cons, List.drop_zero]
        omega
      · cases hs
/-- Only a mode. -/
def modeA (m : Nat) : XA := ⟨0, m, 0, 0, 0, [], []⟩
theorem mode_xs (w : World) (m : Nat) : XsAt w (.slice none 0 0) (modeA m).xs := ⟨none, 0, rfl, Nat.zero_le _, by simp [modeA], by simp [modeA]⟩
/-- What Write leaves, as a call's. -/
theorem write_call {B : Nat} {w w' : World} {r : Nat} {T : Tr} {p d : List UInt8} {k : Nat} (h : TreeAt B w r T) (g : Good k T) (ht : TreeAt B w' r (writeT p d T)) (hu : Turn (r :: ownL T.L) w w') : CallT B w r T w' (writeT p d T) := by
  have key : writeT p d T = T ∨ ∃ n, n ∈ T.L ∧ d.length ≤ 1048576 ∧ T.clock < 1099511627776 ∧ writeT p d T = { T with clock := T.clock + 1, L := tickT [n.p] ((T.clock + 1 : Nat) : Int) (updT { n with data := d } T.L) } := by
    rw [writeT]
    by_cases h0 : writeE p d T = 0
    · rw [if_pos h0]
      cases hg : getT (splitL p) T.L with
      | none => exact .inl rfl
      | some n =>
        refine .inr ⟨n, (getT_nm hg).1, ?_, ?_, rfl⟩
        · rw [writeE] at h0
          split at h0
          · cases h0
          · split at h0
            · cases h0
            · omega
        · rw [writeE, hg] at h0
          split at h0
          · cases h0
          · split at h0
            · cases h0
            · dsimp only at h0
              split at h0
              · cases h0
              · split at h0
                · cases h0
                · omega
    · rw [if_neg h0]; exact .inl rfl
  rcases key with hk | ⟨n, hn, hd, hc, hk⟩
  · rw [hk] at ht ⊢
    exact ⟨ht, hu, fun _ h => .inl h, .same T⟩
  · rw [hk] at ht ⊢
    have hinj : ∀ x ∈ T.L, x.p = n.p → x = n := fun x hx hxp => h.p_inj hx hn hxp
    have hown : ownL (updT { n with data := d } T.L) = ownL T.L := ownL_map (updT_facts hinj rfl rfl rfl)
    refine ⟨ht, hu, fun b hb => .inl ?_, .upd n { n with data := d } hn ⟨rfl, rfl, rfl, rfl, rfl, rfl⟩ hc hd (g.att n hn)⟩
    rw [List.mem_append] at hb ⊢
    rcases hb with hb | hb
    · have hb : b ∈ ownL (tickT [n.p] _ (updT { n with data := d } T.L)) := hb
      rw [own_tickT, hown] at hb
      exact .inl hb
    · obtain ⟨x', hx', hb⟩ := List.mem_flatMap.1 hb
      have : ∃ x ∈ updT { n with data := d } T.L, b ∈ xob x.at_.xs x.xv := by
        obtain ⟨x, hx, rfl | rfl⟩ := tickT_mem hx'
        · exact ⟨_, hx, hb⟩
        · exact ⟨x, hx, hb⟩
      obtain ⟨x, hx, hb⟩ := this
      obtain ⟨y, hy, rfl⟩ := List.mem_map.1 hx
      split at hb
      · exact .inr (List.mem_flatMap.2 ⟨n, hn, hb⟩)
      · exact .inr (List.mem_flatMap.2 ⟨y, hy, hb⟩)
end Go.Proofs.YtkdkifciajfpnaaDoor.Sr
/-
  The closed run of SourceNames, reckoned on views; and what each of its calls leaves.
-/
namespace Go.Proofs.YtkdkifciajfpnaaDoor.Sr
open Go.RowKit Go.Maps Go.WideMaps Go.Proofs.YtkdkifciajfpnaaDoor.Rf Go.Proofs.YtkdkifciajfpnaaDoor.Nm Go.Proofs.YtkdkifciajfpnaaDoor.St

def nmI (i : Nat) : List UInt8 := [97 + UInt8.ofNat (i / 16), 97 + UInt8.ofNat (i % 16)]
def ops : List (VOp × Int) :=
  (List.range 256).map (fun i => (.add [nmI i] 1, 0)) ++ [(.add [[122, 122]] 1, 3), (.move [[97, 97]] [[122, 122]], 0), (.drop [[97, 98]], 0), (.add [[120]] 2, 0)]
  ++ (List.range 15).map (fun i => (.add (List.replicate (i + 2) [120]) 2, 0))
  ++ [(.drop [[97, 99]], 0), (.add [[109]] 2, 0), (.add [[109], [110]] 2, 0), (.move [[120], [120]] [[109], [110], [120]], 10), (.move [[120], [120]] [[109], [120]], 0), (.move [[109], [120]] [[120], [120]], 0), (.has [[122, 122]] 1 2 1, 0),
    (.move [[120], [120]] [[120], [121]], 0), (.move [[120], [121], [120]] [[120], [121], [121]], 0), (.move [[122, 122]] [[120], [122, 122]], 0)]
def V0 : VS := ⟨[([], 2, 1, 0)], 0, 1⟩
def vrun (l : List (VOp × Int)) (V : VS) : VS := l.foldl (fun V o => vnext o.1 V) V
def vat (k : Nat) : VS := vrun (ops.take k) V0
theorem vat_succ {k : Nat} {o : VOp × Int} (h : ops[k]? = some o) : vat (k + 1) = vnext o.1 (vat k) := by
  rw [vat, vat, vrun, vrun, List.take_add_one, h, List.foldl_append]; rfl
/-! ### what lies -/
/-- The tree behind k calls; and a bystander: a block that is none of its own. -/
def NmSt (w0 w : World) (r k : Nat) (S : Nat → Obj → Prop) : Prop := ∃ T, TreeAt w0.heap.size w r T ∧ viewT T = vat k ∧ Below w0.heap.size w0 w ∧ Good k T ∧ ∀ q o, S q o → w.heap[q]? = some o ∧ q ∉ r :: (ownL T.L ++ xobL T.L)
section
variable {w0 w : World} {r k : Nat} {S : Nat → Obj → Prop}
theorem NmSt.below (h : NmSt w0 w r k S) {w' : World} (hb : Below w.heap.size w w') : NmSt w0 w' r k S := by
  obtain ⟨T, h1, h2, h3, h4, h5⟩ := h
  exact ⟨T, h1.below hb, h2, h3.trans (hb.mono h3.size), h4, fun q o hq => ⟨(hb.block q (lt_of_heap (h5 q o hq).1)).trans (h5 q o hq).1, (h5 q o hq).2⟩⟩
theorem NmSt.next {T T' : Tr} {w' : World} {o : VOp × Int} (ho : ops[k]? = some o) (hT : TreeAt w0.heap.size w r T) (hv : viewT T = vat k) (hb : Below w0.heap.size w0 w) (hg : Good k T) (hS : ∀ q o, S q o → w.heap[q]? = some o ∧ q ∉ r :: (ownL T.L ++ xobL T.L)) (hc : CallT w0.heap.size w r T w' T') (hn : viewT T' = vnext o.1 (viewT T)) : NmSt w0 w' r (k + 1) S := by
  refine ⟨T', hc.tree, by rw [hn, hv, vat_succ ho], hb.trans (hc.turn.below (fun x hx => hT.base x ?_) hb.size), ChT.good hT hc.ch hg, fun q o hq => ?_⟩
  · rw [List.mem_cons] at hx ⊢
    exact hx.imp id (fun h => List.mem_append_left _ h)
  · obtain ⟨h1, h2⟩ := hS q o hq
    have h3 := lt_of_heap h1
    rw [List.mem_cons, not_or] at h2
    refine ⟨(hc.turn.block q h3 (fun hx => ?_)).trans h1, fun hx => ?_⟩
    · rw [List.mem_cons] at hx
      exact hx.elim h2.1 (fun h => h2.2 (List.mem_append_left _ h))
    · rw [List.mem_cons] at hx
      rcases hx with hx | hx
      · exact h2.1 hx
      · rcases hc.own q hx with h | h
        · exact h2.2 h
        · omega
theorem NmSt.add {T : Tr} {w1 w' : World} {p : List UInt8} {l : PN} {kd : Nat} {c : Int} {A : XA} {e : Ending} (hck : ∀ {k o}, ops[k]? = some o → verr o.1 (vat k) = o.2) (ho : ops[k]? = some (.add l kd, c)) (hp : splitE p = 0) (hl : splitL p = l) (hA : chkA A = true) (hk : A.node = kd)
    (hT : TreeAt w0.heap.size w r T) (hv : viewT T = vat k) (hb : Below w0.heap.size w0 w) (hg : Good k T) (hS : ∀ q o, S q o → w.heap[q]? = some o ∧ q ∉ r :: (ownL T.L ++ xobL T.L)) (hb1 : Below w.heap.size w w1) (h : AddPost w0.heap.size w1 r T p [] A e w') : e = .returned (.int .i64 c) ∧ NmSt w0 w' r (k + 1) S := by
  obtain ⟨he, T', hc, hno, hyes⟩ := h.call hT hb1 (.inl (by simp)) (splitL_16 p)
  have hE : addE p [] A T = c := by rw [verr_add hp hA (by simp) kd, hl, hv, hck ho]
  have hE2 : verr (.add l kd) (viewT T) = c := by rw [hv]; exact hck ho
  rw [hE] at he hno hyes
  refine ⟨he, NmSt.next ho hT hv hb hg hS hc ?_⟩
  show viewT T' = vnext (.add l kd) (viewT T)
  by_cases h0 : c = 0
  · obtain ⟨n, u, hu, hun, hn, hi, ha, _, ht, hT'⟩ := hyes h0
    have htr := hc.tree
    rw [hT'] at htr ⊢
    rw [vnext, if_pos (hE2.trans h0), view_add hu (by rw [hun, hl]) (by rw [hn, hl]) hi (by rw [ha, hk]) ht htr]
  · rw [hno h0, vnext, if_neg (by rw [hE2]; exact h0)]
theorem NmSt.drop (hck : ∀ {k o}, ops[k]? = some o → verr o.1 (vat k) = o.2) (h : NmSt w0 w r k S) {p : List UInt8} {l : PN} {c : Int} (ho : ops[k]? = some (.drop l, c)) (hp : splitE p = 0) (hl : splitL p = l) (hlen : p.length ≤ 1000) :
    Calls Tryd.prog 13 #[ptr r, .string ⟨p.toArray⟩] w fun e w' => e = .returned (.int .i64 c) ∧ NmSt w0 w' r (k + 1) S := by
  obtain ⟨T, hT, hv, hb, hg, hS⟩ := h
  refine (drop_any w0.heap.size w r T p (by omega) hT).mono ?_
  rintro e w' ⟨he, hc⟩
  have hE : dropE p T = c := by rw [verr_drop hp, hl, hv, hck ho]
  rw [hE] at he
  exact ⟨he, NmSt.next ho hT hv hb hg hS hc (by rw [view_drop hp hT hc.tree, hl])⟩
theorem NmSt.move (hck : ∀ {k o}, ops[k]? = some o → verr o.1 (vat k) = o.2) (h : NmSt w0 w r k S) {p q : List UInt8} {l m : PN} {c : Int} (ho : ops[k]? = some (.move l m, c)) (hp : splitE p = 0) (hl : splitL p = l) (hq : splitE q = 0) (hm : splitL q = m) (hlen : p.length ≤ 1000) (hlen2 : q.length ≤ 1000) (hk : k < 1000) :
    Calls Tryd.prog 15 #[ptr r, .string ⟨p.toArray⟩, .string ⟨q.toArray⟩] w fun e w' => e = .returned (.int .i64 c) ∧ NmSt w0 w' r (k + 1) S := by
  obtain ⟨T, hT, hv, hb, hg, hS⟩ := h
  refine (move_any w0.heap.size w r T p q (by omega) (by omega) hg.deep (by have := hg.len; omega) hT).mono ?_
  rintro e w' ⟨he, hc⟩
  have hE : moveE p q T = c := by rw [verr_move hp hq, hl, hm, hv, hck ho]
  rw [hE] at he
  exact ⟨he, NmSt.next ho hT hv hb hg hS hc (by rw [view_move hp hq hT hc.tree, hl, hm])⟩
theorem NmSt.stat (hck : ∀ {k o}, ops[k]? = some o → verr o.1 (vat k) = o.2) (h : NmSt w0 w r k S) {p : List UInt8} {l : PN} {i : Nat} {t : Int} (ho : ops[k]? = some (.has l 1 i t, 0)) (hp : splitE p = 0) (hl : splitL p = l) (hlen : p.length ≤ 1000) :
    Calls Tryd.prog 16 #[ptr r, .string ⟨p.toArray⟩] w fun e w' => ∃ sz : Int, e = .returned (.tuple #[.agg #[.int .u8 1, .int .i64 sz, .int .u64 (i : Int), .int .i64 t], .int .i64 0]) ∧ Below w.heap.size w w' ∧ NmSt w0 w' r (k + 1) S := by
  have h' := h
  obtain ⟨T, hT, hv, hb, hg, hS⟩ := h
  have h1 : vget l (T.L.map keyV) = some (l, 1, i, t) := by
    have h2 := hck ho
    rw [← hv] at h2
    have h2 : (if vget l (T.L.map keyV) = some (l, 1, i, t) then (0 : Int) else 1) = 0 := h2
    by_cases hc : vget l (T.L.map keyV) = some (l, 1, i, t)
    · exact hc
    · rw [if_neg hc] at h2; cases h2
  rw [vget_map] at h1
  obtain ⟨e, he, hk⟩ := Option.map_eq_some_iff.1 h1
  have k1 : e.at_.node = 1 := congrArg (fun x : VN => x.2.1) hk
  have k2 : e.ino = i := congrArg (fun x : VN => x.2.2.1) hk
  have k3 : e.tick = t := congrArg (fun x : VN => x.2.2.2) hk
  have hf : findN p T.L = some e := by rw [findN, if_pos hp, hl, he]
  have hfe : findE p T.L = 0 := by rw [findE, if_pos hp, hl, he]; rfl
  have hst : (statN p T.L).stat.toArray = #[.int .u8 1, .int .i64 (sizeT e T.L), .int .u64 (i : Int), .int .i64 t] := by
    rw [statN, hf]
    show #[Value.int .u8 (e.at_.node : Int), .int .i64 (sizeT e T.L), .int .u64 (e.ino : Int), .int .i64 e.tick] = _
    rw [k1, k2, k3]; rfl
  refine (stat_any w0.heap.size w r T p (by omega) hT).mono ?_
  rintro ex w' ⟨rfl, hbw⟩
  refine ⟨sizeT e T.L, by rw [hst, hfe], hbw, ?_⟩
  obtain ⟨T2, a1, a2, a3, a4, a5⟩ := h'.below hbw
  exact ⟨T2, a1, by rw [a2, vat_succ ho, vnext_has], a3, a4.mono (by omega), a5⟩
end
end Go.Proofs.YtkdkifciajfpnaaDoor.Sr
