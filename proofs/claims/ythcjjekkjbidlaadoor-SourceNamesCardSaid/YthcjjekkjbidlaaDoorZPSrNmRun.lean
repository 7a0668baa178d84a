import Derived.Test.YthcjjekkjbidlaaDoorZPSrVw
import Derived.Test.YthcjjekkjbidlaaDoorZPSrHapp
import Derived.Test.YthcjjekkjbidlaaDoorZPSrNew
import Derived.Test.YthcjjekkjbidlaaDoorZPSrWrite
set_option linter.unusedSimpArgs false
set_option linter.unusedVariables false
/-
  The closed run of SourceNames, reckoned on views; and what each of its calls leaves.
-/
namespace Go.Proofs.YthcjjekkjbidlaaDoor.Sr
open Go.RowKit Go.Maps Go.WideMaps Go.Proofs.YthcjjekkjbidlaaDoor.Rf Go.Proofs.YthcjjekkjbidlaaDoor.Nm Go.Proofs.YthcjjekkjbidlaaDoor.St

def nmI (i : Nat) : List UInt8 := [97 + UInt8.ofNat (i / 16), 97 + UInt8.ofNat (i % 16)]
def ops : List (VOp × Int) :=
  (List.range 256).map (fun i => (.add [nmI i] 1, 0)) ++ [(.add [[122, 122]] 1, 3), (.move [[97, 97]] [[122, 122]], 0), (.drop [[97, 98]], 0), (.add [[120]] 2, 0)]
  ++ (List.range 15).map (fun i => (.add (List.replicate (i + 2) [120]) 2, 0))
  ++ [(.drop [[97, 99]], 0), (.add [[109]] 2, 0), (.add [[109], [110]] 2, 0), (.move [[120], [120]] [[109], [110], [120]], 10), (.move [[120], [120]] [[109], [120]], 0), (.move [[109], [120]] [[120], [120]], 0), (.has [[122, 122]] 1 2 1, 0),
    (.move [[120], [120]] [[120], [121]], 0), (.move [[120], [121], [120]] [[120], [121], [121]], 0), (.move [[122, 122]] [[120], [122, 122]], 0)]
def V0 : VS := ⟨[([], 2, 1, 0)], 0, 1⟩
def vrun (l : List (VOp × Int)) (V : VS) : VS := l.foldl (fun V o => vnext o.1 V) V
def vchk : VS → List (VOp × Int) → Bool
  | _, [] => true
  | V, o :: r => decide (verr o.1 V = o.2) && vchk (vnext o.1 V) r
theorem vchk_at : ∀ {l : List (VOp × Int)} {V : VS}, vchk V l = true → ∀ {k : Nat} {o : VOp × Int}, l[k]? = some o → verr o.1 (vrun (l.take k) V) = o.2
  | [], _, _, k, _, h => by simp at h
  | x :: r, V, hc, 0, o, h => by
    rw [vchk, Bool.and_eq_true, decide_eq_true_eq] at hc
    simp at h; subst h
    exact hc.1
  | x :: r, V, hc, k + 1, o, h => by
    rw [vchk, Bool.and_eq_true] at hc
    exact vchk_at hc.2 (by simpa using h)
def vat (k : Nat) : VS := vrun (ops.take k) V0
theorem vat_succ {k : Nat} {o : VOp × Int} (h : ops[k]? = some o) : vat (k + 1) = vnext o.1 (vat k) := by
  rw [vat, vat, vrun, vrun, List.take_add_one, h, List.foldl_append]; rfl
/-! ### what lies -/
/-- The tree behind k calls; and a bystander: a block that is none of its own. -/
def NmSt (w0 w : World) (r k : Nat) (S : Nat → Obj → Prop) : Prop := ∃ T, TreeAt w0.heap.size w r T ∧ viewT T = vat k ∧ Below w0.heap.size w0 w ∧ Good k T ∧ ∀ q o, S q o → w.heap[q]? = some o ∧ q ∉ r :: (ownL T.L ++ xobL T.L)
section
variable {w0 w : World} {r k : Nat} {S : Nat → Obj → Prop}
theorem NmSt.below (h : NmSt w0 w r k S) {w' : World} (hb : Below w.heap.size w w') : NmSt w0 w' r k S := by
  obtain ⟨T, h1, h2, h3, h4, h5⟩ := h
  exact ⟨T, h1.below hb, h2, h3.trans (hb.mono h3.size), h4, fun q o hq => ⟨(hb.block q (lt_of_heap (h5 q o hq).1)).trans (h5 q o hq).1, (h5 q o hq).2⟩⟩
theorem NmSt.next {T T' : Tr} {w' : World} {o : VOp × Int} (ho : ops[k]? = some o) (hT : TreeAt w0.heap.size w r T) (hv : viewT T = vat k) (hb : Below w0.heap.size w0 w) (hg : Good k T) (hS : ∀ q o, S q o → w.heap[q]? = some o ∧ q ∉ r :: (ownL T.L ++ xobL T.L)) (hc : CallT w0.heap.size w r T w' T') (hn : viewT T' = vnext o.1 (viewT T)) : NmSt w0 w' r (k + 1) S := by
  refine ⟨T', hc.tree, by rw [hn, hv, vat_succ ho], hb.trans (hc.turn.below (fun x hx => hT.base x ?_) hb.size), ChT.good hT hc.ch hg, fun q o hq => ?_⟩
  · rw [List.mem_cons] at hx ⊢
    exact hx.imp id (fun h => List.mem_append_left _ h)
  · obtain ⟨h1, h2⟩ := hS q o hq
    have h3 := lt_of_heap h1
    rw [List.mem_cons, not_or] at h2
    refine ⟨(hc.turn.block q h3 (fun hx => ?_)).trans h1, fun hx => ?_⟩
    · rw [List.mem_cons] at hx
      exact hx.elim h2.1 (fun h => h2.2 (List.mem_append_left _ h))
    · rw [List.mem_cons] at hx
      rcases hx with hx | hx
      · exact h2.1 hx
      · rcases hc.own q hx with h | h
        · exact h2.2 h
        · omega
theorem NmSt.add {T : Tr} {w1 w' : World} {p : List UInt8} {l : PN} {kd : Nat} {c : Int} {A : XA} {e : Ending} (hck : ∀ {k o}, ops[k]? = some o → verr o.1 (vat k) = o.2) (ho : ops[k]? = some (.add l kd, c)) (hp : splitE p = 0) (hl : splitL p = l) (hA : chkA A = true) (hk : A.node = kd)
    (hT : TreeAt w0.heap.size w r T) (hv : viewT T = vat k) (hb : Below w0.heap.size w0 w) (hg : Good k T) (hS : ∀ q o, S q o → w.heap[q]? = some o ∧ q ∉ r :: (ownL T.L ++ xobL T.L)) (hb1 : Below w.heap.size w w1) (h : AddPost w0.heap.size w1 r T p [] A e w') : e = .returned (.int .i64 c) ∧ NmSt w0 w' r (k + 1) S := by
  obtain ⟨he, T', hc, hno, hyes⟩ := h.call hT hb1 (.inl (by simp)) (splitL_16 p)
  have hE : addE p [] A T = c := by rw [verr_add hp hA (by simp) kd, hl, hv, hck ho]
  have hE2 : verr (.add l kd) (viewT T) = c := by rw [hv]; exact hck ho
  rw [hE] at he hno hyes
  refine ⟨he, NmSt.next ho hT hv hb hg hS hc ?_⟩
  show viewT T' = vnext (.add l kd) (viewT T)
  by_cases h0 : c = 0
  · obtain ⟨n, u, hu, hun, hn, hi, ha, _, ht, hT'⟩ := hyes h0
    have htr := hc.tree
    rw [hT'] at htr ⊢
    rw [vnext, if_pos (hE2.trans h0), view_add hu (by rw [hun, hl]) (by rw [hn, hl]) hi (by rw [ha, hk]) ht htr]
  · rw [hno h0, vnext, if_neg (by rw [hE2]; exact h0)]
theorem NmSt.file (hck : ∀ {k o}, ops[k]? = some o → verr o.1 (vat k) = o.2) (h : NmSt w0 w r k S) {p : List UInt8} {l : PN} {c : Int} (ho : ops[k]? = some (.add l 1, c)) (hp : splitE p = 0) (hl : splitL p = l) (hlen : p.length ≤ 1000) (hk : k < 1000) :
    Calls Tryd.prog 17 #[ptr r, .string ⟨p.toArray⟩, .string ⟨#[]⟩, .agg (zeroA.cells (.slice none 0 0)).toArray] w fun e w' => e = .returned (.int .i64 c) ∧ NmSt w0 w' r (k + 1) S := by
  obtain ⟨T, hT, hv, hb, hg, hS⟩ := h
  have hm : T.most < 18446744073709551615 := by
    have := hg.most; omega
  refine (file_any w0.heap.size w r T p [] zeroA (.slice none 0 0) (by omega) (by simp) ⟨none, 0, rfl, Nat.zero_le _, by simp [zeroA], by simp [zeroA]⟩ (by simp [zeroA, xob]) hm hT).mono ?_
  rintro e w' ⟨W, hbW, _, hA⟩
  exact NmSt.add hck ho hp hl (by decide) rfl hT hv hb hg hS hbW hA
theorem NmSt.folder (hck : ∀ {k o}, ops[k]? = some o → verr o.1 (vat k) = o.2) (h : NmSt w0 w r k S) {p : List UInt8} {l : PN} {c : Int} (ho : ops[k]? = some (.add l 2, c)) (hp : splitE p = 0) (hl : splitL p = l) (hlen : p.length ≤ 1000) (hk : k < 1000) :
    Calls Tryd.prog 19 #[ptr r, .string ⟨p.toArray⟩, .agg (zeroA.cells (.slice none 0 0)).toArray] w fun e w' => e = .returned (.int .i64 c) ∧ NmSt w0 w' r (k + 1) S := by
  obtain ⟨T, hT, hv, hb, hg, hS⟩ := h
  have hm : T.most < 18446744073709551615 := by
    have := hg.most; omega
  refine (folder_any w0.heap.size w r T p zeroA (.slice none 0 0) (by omega) ⟨none, 0, rfl, Nat.zero_le _, by simp [zeroA], by simp [zeroA]⟩ (by simp [zeroA, xob]) hm hT).mono ?_
  rintro e w' ⟨W, hbW, _, hA⟩
  exact NmSt.add hck ho hp hl (by decide) rfl hT hv hb hg hS hbW hA
/-- A path too deep. -/
theorem NmSt.folder_no (h : NmSt w0 w r k S) {p : List UInt8} (hp : splitE p = 10) (hlen : p.length ≤ 1000) (hk : k < 1000) :
    Calls Tryd.prog 19 #[ptr r, .string ⟨p.toArray⟩, .agg (zeroA.cells (.slice none 0 0)).toArray] w fun e w' => e = .returned (.int .i64 10) ∧ NmSt w0 w' r k S := by
  obtain ⟨T, hT, hv, hb, hg, hS⟩ := h
  have hm : T.most < 18446744073709551615 := by
    have := hg.most; omega
  refine (folder_any w0.heap.size w r T p zeroA (.slice none 0 0) (by omega) ⟨none, 0, rfl, Nat.zero_le _, by simp [zeroA], by simp [zeroA]⟩ (by simp [zeroA, xob]) hm hT).mono ?_
  rintro e w' ⟨W, hbW, hTW, he, hno, _⟩
  have hE : addE p [] (asFold zeroA) T = 10 := by rw [addE, if_pos (by rw [hp]; decide)]
  rw [hE] at he hno
  obtain ⟨h1, h2⟩ := hno (by decide)
  refine ⟨he, T, h1, hv, (hb.trans (hbW.mono hb.size)).trans (h2.mono (Nat.le_trans hb.size hbW.size)), hg, fun q o hq => ?_⟩
  obtain ⟨k1, k2⟩ := hS q o hq
  have k3 := lt_of_heap k1
  exact ⟨((h2.block q (Nat.lt_of_lt_of_le k3 hbW.size)).trans (hbW.block q k3)).trans k1, k2⟩
theorem NmSt.drop (hck : ∀ {k o}, ops[k]? = some o → verr o.1 (vat k) = o.2) (h : NmSt w0 w r k S) {p : List UInt8} {l : PN} {c : Int} (ho : ops[k]? = some (.drop l, c)) (hp : splitE p = 0) (hl : splitL p = l) (hlen : p.length ≤ 1000) :
    Calls Tryd.prog 11 #[ptr r, .string ⟨p.toArray⟩] w fun e w' => e = .returned (.int .i64 c) ∧ NmSt w0 w' r (k + 1) S := by
  obtain ⟨T, hT, hv, hb, hg, hS⟩ := h
  refine (drop_any w0.heap.size w r T p (by omega) hT).mono ?_
  rintro e w' ⟨he, hc⟩
  have hE : dropE p T = c := by rw [verr_drop hp, hl, hv, hck ho]
  rw [hE] at he
  exact ⟨he, NmSt.next ho hT hv hb hg hS hc (by rw [view_drop hp hT hc.tree, hl])⟩
theorem NmSt.move (hck : ∀ {k o}, ops[k]? = some o → verr o.1 (vat k) = o.2) (h : NmSt w0 w r k S) {p q : List UInt8} {l m : PN} {c : Int} (ho : ops[k]? = some (.move l m, c)) (hp : splitE p = 0) (hl : splitL p = l) (hq : splitE q = 0) (hm : splitL q = m) (hlen : p.length ≤ 1000) (hlen2 : q.length ≤ 1000) (hk : k < 1000) :
    Calls Tryd.prog 18 #[ptr r, .string ⟨p.toArray⟩, .string ⟨q.toArray⟩] w fun e w' => e = .returned (.int .i64 c) ∧ NmSt w0 w' r (k + 1) S := by
  obtain ⟨T, hT, hv, hb, hg, hS⟩ := h
  refine (move_any w0.heap.size w r T p q (by omega) (by omega) hg.deep (by have := hg.len; omega) hT).mono ?_
  rintro e w' ⟨he, hc⟩
  have hE : moveE p q T = c := by rw [verr_move hp hq, hl, hm, hv, hck ho]
  rw [hE] at he
  exact ⟨he, NmSt.next ho hT hv hb hg hS hc (by rw [view_move hp hq hT hc.tree, hl, hm])⟩
theorem NmSt.stat (hck : ∀ {k o}, ops[k]? = some o → verr o.1 (vat k) = o.2) (h : NmSt w0 w r k S) {p : List UInt8} {l : PN} {i : Nat} {t : Int} (ho : ops[k]? = some (.has l 1 i t, 0)) (hp : splitE p = 0) (hl : splitL p = l) (hlen : p.length ≤ 1000) :
    Calls Tryd.prog 9 #[ptr r, .string ⟨p.toArray⟩] w fun e w' => ∃ sz : Int, e = .returned (.tuple #[.agg #[.int .u8 1, .int .i64 sz, .int .u64 (i : Int), .int .i64 t], .int .i64 0]) ∧ Below w.heap.size w w' ∧ NmSt w0 w' r (k + 1) S := by
  have h' := h
  obtain ⟨T, hT, hv, hb, hg, hS⟩ := h
  have h1 : vget l (T.L.map keyV) = some (l, 1, i, t) := by
    have h2 := hck ho
    rw [← hv] at h2
    have h2 : (if vget l (T.L.map keyV) = some (l, 1, i, t) then (0 : Int) else 1) = 0 := h2
    by_cases hc : vget l (T.L.map keyV) = some (l, 1, i, t)
    · exact hc
    · rw [if_neg hc] at h2; cases h2
  rw [vget_map] at h1
  obtain ⟨e, he, hk⟩ := Option.map_eq_some_iff.1 h1
  have k1 : e.at_.node = 1 := congrArg (fun x : VN => x.2.1) hk
  have k2 : e.ino = i := congrArg (fun x : VN => x.2.2.1) hk
  have k3 : e.tick = t := congrArg (fun x : VN => x.2.2.2) hk
  have hf : findN p T.L = some e := by rw [findN, if_pos hp, hl, he]
  have hfe : findE p T.L = 0 := by rw [findE, if_pos hp, hl, he]; rfl
  have hst : (statN p T.L).stat.toArray = #[.int .u8 1, .int .i64 (sizeT e T.L), .int .u64 (i : Int), .int .i64 t] := by
    rw [statN, hf]
    show #[Value.int .u8 (e.at_.node : Int), .int .i64 (sizeT e T.L), .int .u64 (e.ino : Int), .int .i64 e.tick] = _
    rw [k1, k2, k3]; rfl
  refine (stat_any w0.heap.size w r T p (by omega) hT).mono ?_
  rintro ex w' ⟨rfl, hbw⟩
  refine ⟨sizeT e T.L, by rw [hst, hfe], hbw, ?_⟩
  obtain ⟨T2, a1, a2, a3, a4, a5⟩ := h'.below hbw
  exact ⟨T2, a1, by rw [a2, vat_succ ho, vnext_has], a3, a4.mono (by omega), a5⟩
/-- Too much to be written. -/
theorem NmSt.write_no (h : NmSt w0 w r k S) {p d : List UInt8} (hp : splitE p = 0) (hlen : p.length ≤ 1000) (hd : 1048576 < d.length) (hd2 : d.length ≤ 4611686018427387904) :
    Calls Tryd.prog 20 #[ptr r, .string ⟨p.toArray⟩, .string ⟨d.toArray⟩] w fun e w' => e = .returned (.int .i64 1) ∧ Below w0.heap.size w0 w' := by
  obtain ⟨T, hT, hv, hb, hg, hS⟩ := h
  refine (write_any w0.heap.size w r T p d (by omega) hd2 hT).mono ?_
  rintro e w' ⟨he, _, ht⟩
  have hE : writeE p d T = 1 := by rw [writeE, if_neg (by rw [hp]; simp), if_pos hd]
  rw [hE] at he
  refine ⟨he, hb.trans (ht.below (fun x hx => hT.base x ?_) hb.size)⟩
  rw [List.mem_cons] at hx ⊢
  exact hx.imp id (fun h => List.mem_append_left _ h)
/-- A fresh block beside the tree. -/
theorem NmSt.beside (h : NmSt w0 w r k S) {w' : World} (hb : Below w.heap.size w w') {o : Obj} (ho : w'.heap[w.heap.size]? = some o) : NmSt w0 w' r k (fun q x => q = w.heap.size ∧ x = o) := by
  obtain ⟨T, hT, hv, hb0, hg, hS⟩ := h
  refine ⟨T, hT.below hb, hv, hb0.trans (hb.mono hb0.size), hg, ?_⟩
  rintro q x ⟨rfl, rfl⟩
  exact ⟨ho, fun hx => Nat.lt_irrefl _ (hT.lt _ hx)⟩
end
end Go.Proofs.YthcjjekkjbidlaaDoor.Sr
