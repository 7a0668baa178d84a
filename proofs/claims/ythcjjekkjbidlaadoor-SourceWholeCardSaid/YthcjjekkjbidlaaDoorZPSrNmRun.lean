import Derived.Test.YthcjjekkjbidlaaDoorZPSrVw
import Derived.Test.YthcjjekkjbidlaaDoorZPSrHapp
import Derived.Test.YthcjjekkjbidlaaDoorZPSrNew
import Derived.Test.YthcjjekkjbidlaaDoorZPSrWrite
import Derived.Test.YthcjjekkjbidlaaDoorZPNmCodec
set_option linter.unusedSimpArgs false
set_option linter.unusedVariables false
/-
  The closed run of SourceNames, reckoned on views; and what each of its calls leaves.
-/
namespace Go.Proofs.YthcjjekkjbidlaaDoor.Sr
open Go.RowKit Go.Maps Go.WideMaps Go.Proofs.YthcjjekkjbidlaaDoor.Rf Go.Proofs.YthcjjekkjbidlaaDoor.Nm Go.Proofs.YthcjjekkjbidlaaDoor.St

def nmI (i : Nat) : List UInt8 := [97 + UInt8.ofNat (i / 16), 97 + UInt8.ofNat (i % 16)]
def ops : List (VOp × Int) :=
  (List.range 256).map (fun i => (.add [nmI i] 1, 0)) ++ [(.add [[122, 122]] 1, 3), (.move [[97, 97]] [[122, 122]], 0), (.drop [[97, 98]], 0), (.add [[120]] 2, 0)]
  ++ (List.range 15).map (fun i => (.add (List.replicate (i + 2) [120]) 2, 0))
  ++ [(.drop [[97, 99]], 0), (.add [[109]] 2, 0), (.add [[109], [110]] 2, 0), (.move [[120], [120]] [[109], [110], [120]], 10), (.move [[120], [120]] [[109], [120]], 0), (.move [[109], [120]] [[120], [120]], 0), (.has [[122, 122]] 1 2 1, 0),
    (.move [[120], [120]] [[120], [121]], 0), (.move [[120], [121], [120]] [[120], [121], [121]], 0), (.move [[122, 122]] [[120], [122, 122]], 0)]
def V0 : VS := ⟨[([], 2, 1, 0)], 0, 1⟩
def vrun (l : List (VOp × Int)) (V : VS) : VS := l.foldl (fun V o => vnext o.1 V) V
def vat (k : Nat) : VS := vrun (ops.take k) V0
theorem vat_succ {k : Nat} {o : VOp × Int} (h : ops[k]? = some o) : vat (k + 1) = vnext o.1 (vat k) := by
  rw [vat, vat, vrun, vrun, List.take_add_one, h, List.foldl_append]; rfl
/-! ### what lies -/
/-- The tree behind k calls; and a bystander: a block that is none of its own. -/
def NmSt (w0 w : World) (r k : Nat) (S : Nat → Obj → Prop) : Prop := ∃ T, TreeAt w0.heap.size w r T ∧ viewT T = vat k ∧ Below w0.heap.size w0 w ∧ Good k T ∧ ∀ q o, S q o → w.heap[q]? = some o ∧ q ∉ r :: (ownL T.L ++ xobL T.L)
section
variable {w0 w : World} {r k : Nat} {S : Nat → Obj → Prop}
theorem NmSt.below (h : NmSt w0 w r k S) {w' : World} (hb : Below w.heap.size w w') : NmSt w0 w' r k S := by
  obtain ⟨T, h1, h2, h3, h4, h5⟩ := h
  exact ⟨T, h1.below hb, h2, h3.trans (hb.mono h3.size), h4, fun q o hq => ⟨(hb.block q (lt_of_heap (h5 q o hq).1)).trans (h5 q o hq).1, (h5 q o hq).2⟩⟩
theorem NmSt.next {T T' : Tr} {w' : World} {o : VOp × Int} (ho : ops[k]? = some o) (hT : TreeAt w0.heap.size w r T) (hv : viewT T = vat k) (hb : Below w0.heap.size w0 w) (hg : Good k T) (hS : ∀ q o, S q o → w.heap[q]? = some o ∧ q ∉ r :: (ownL T.L ++ xobL T.L)) (hc : CallT w0.heap.size w r T w' T') (hn : viewT T' = vnext o.1 (viewT T)) : NmSt w0 w' r (k + 1) S := by
  refine ⟨T', hc.tree, by rw [hn, hv, vat_succ ho], hb.trans (hc.turn.below (fun x hx => hT.base x ?_) hb.size), ChT.good hT hc.ch hg, fun q o hq => ?_⟩
  · rw [List.mem_cons] at hx ⊢
    exact hx.imp id (fun h => List.mem_append_left _ h)
  · obtain ⟨h1, h2⟩ := hS q o hq
    have h3 := lt_of_heap h1
    rw [List.mem_cons, not_or] at h2
    refine ⟨(hc.turn.block q h3 (fun hx => ?_)).trans h1, fun hx => ?_⟩
    · rw [List.mem_cons] at hx
      exact hx.elim h2.1 (fun h => h2.2 (List.mem_append_left _ h))
    · rw [List.mem_cons] at hx
      rcases hx with hx | hx
      · exact h2.1 hx
      · rcases hc.own q hx with h | h
        · exact h2.2 h
        · omega
theorem NmSt.add {T : Tr} {w1 w' : World} {p : List UInt8} {l : PN} {kd : Nat} {c : Int} {A : XA} {e : Ending} (hck : ∀ {k o}, ops[k]? = some o → verr o.1 (vat k) = o.2) (ho : ops[k]? = some (.add l kd, c)) (hp : splitE p = 0) (hl : splitL p = l) (hA : chkA A = true) (hk : A.node = kd)
    (hT : TreeAt w0.heap.size w r T) (hv : viewT T = vat k) (hb : Below w0.heap.size w0 w) (hg : Good k T) (hS : ∀ q o, S q o → w.heap[q]? = some o ∧ q ∉ r :: (ownL T.L ++ xobL T.L)) (hb1 : Below w.heap.size w w1) (h : AddPost w0.heap.size w1 r T p [] A e w') : e = .returned (.int .i64 c) ∧ NmSt w0 w' r (k + 1) S := by
  obtain ⟨he, T', hc, hno, hyes⟩ := h.call hT hb1 (.inl (by simp)) (splitL_16 p)
  have hE : addE p [] A T = c := by rw [verr_add hp hA (by simp) kd, hl, hv, hck ho]
  have hE2 : verr (.add l kd) (viewT T) = c := by rw [hv]; exact hck ho
  rw [hE] at he hno hyes
  refine ⟨he, NmSt.next ho hT hv hb hg hS hc ?_⟩
  show viewT T' = vnext (.add l kd) (viewT T)
  by_cases h0 : c = 0
  · obtain ⟨n, u, hu, hun, hn, hi, ha, _, ht, hT'⟩ := hyes h0
    have htr := hc.tree
    rw [hT'] at htr ⊢
    rw [vnext, if_pos (hE2.trans h0), view_add hu (by rw [hun, hl]) (by rw [hn, hl]) hi (by rw [ha, hk]) ht htr]
  · rw [hno h0, vnext, if_neg (by rw [hE2]; exact h0)]
theorem NmSt.drop (hck : ∀ {k o}, ops[k]? = some o → verr o.1 (vat k) = o.2) (h : NmSt w0 w r k S) {p : List UInt8} {l : PN} {c : Int} (ho : ops[k]? = some (.drop l, c)) (hp : splitE p = 0) (hl : splitL p = l) (hlen : p.length ≤ 1000) :
    Calls Tryd.prog 11 #[ptr r, .string ⟨p.toArray⟩] w fun e w' => e = .returned (.int .i64 c) ∧ NmSt w0 w' r (k + 1) S := by
  obtain ⟨T, hT, hv, hb, hg, hS⟩ := h
  refine (drop_any w0.heap.size w r T p (by omega) hT).mono ?_
  rintro e w' ⟨he, hc⟩
  have hE : dropE p T = c := by rw [verr_drop hp, hl, hv, hck ho]
  rw [hE] at he
  exact ⟨he, NmSt.next ho hT hv hb hg hS hc (by rw [view_drop hp hT hc.tree, hl])⟩
theorem NmSt.move (hck : ∀ {k o}, ops[k]? = some o → verr o.1 (vat k) = o.2) (h : NmSt w0 w r k S) {p q : List UInt8} {l m : PN} {c : Int} (ho : ops[k]? = some (.move l m, c)) (hp : splitE p = 0) (hl : splitL p = l) (hq : splitE q = 0) (hm : splitL q = m) (hlen : p.length ≤ 1000) (hlen2 : q.length ≤ 1000) (hk : k < 1000) :
    Calls Tryd.prog 18 #[ptr r, .string ⟨p.toArray⟩, .string ⟨q.toArray⟩] w fun e w' => e = .returned (.int .i64 c) ∧ NmSt w0 w' r (k + 1) S := by
  obtain ⟨T, hT, hv, hb, hg, hS⟩ := h
  refine (move_any w0.heap.size w r T p q (by omega) (by omega) hg.deep (by have := hg.len; omega) hT).mono ?_
  rintro e w' ⟨he, hc⟩
  have hE : moveE p q T = c := by rw [verr_move hp hq, hl, hm, hv, hck ho]
  rw [hE] at he
  exact ⟨he, NmSt.next ho hT hv hb hg hS hc (by rw [view_move hp hq hT hc.tree, hl, hm])⟩
theorem NmSt.stat (hck : ∀ {k o}, ops[k]? = some o → verr o.1 (vat k) = o.2) (h : NmSt w0 w r k S) {p : List UInt8} {l : PN} {i : Nat} {t : Int} (ho : ops[k]? = some (.has l 1 i t, 0)) (hp : splitE p = 0) (hl : splitL p = l) (hlen : p.length ≤ 1000) :
    Calls Tryd.prog 9 #[ptr r, .string ⟨p.toArray⟩] w fun e w' => ∃ sz : Int, e = .returned (.tuple #[.agg #[.int .u8 1, .int .i64 sz, .int .u64 (i : Int), .int .i64 t], .int .i64 0]) ∧ Below w.heap.size w w' ∧ NmSt w0 w' r (k + 1) S := by
  have h' := h
  obtain ⟨T, hT, hv, hb, hg, hS⟩ := h
  have h1 : vget l (T.L.map keyV) = some (l, 1, i, t) := by
    have h2 := hck ho
    rw [← hv] at h2
    have h2 : (if vget l (T.L.map keyV) = some (l, 1, i, t) then (0 : Int) else 1) = 0 := h2
    by_cases hc : vget l (T.L.map keyV) = some (l, 1, i, t)
    · exact hc
    · rw [if_neg hc] at h2; cases h2
  rw [vget_map] at h1
  obtain ⟨e, he, hk⟩ := Option.map_eq_some_iff.1 h1
  have k1 : e.at_.node = 1 := congrArg (fun x : VN => x.2.1) hk
  have k2 : e.ino = i := congrArg (fun x : VN => x.2.2.1) hk
  have k3 : e.tick = t := congrArg (fun x : VN => x.2.2.2) hk
  have hf : findN p T.L = some e := by rw [findN, if_pos hp, hl, he]
  have hfe : findE p T.L = 0 := by rw [findE, if_pos hp, hl, he]; rfl
  have hst : (statN p T.L).stat.toArray = #[.int .u8 1, .int .i64 (sizeT e T.L), .int .u64 (i : Int), .int .i64 t] := by
    rw [statN, hf]
    show #[Value.int .u8 (e.at_.node : Int), .int .i64 (sizeT e T.L), .int .u64 (e.ino : Int), .int .i64 e.tick] = _
    rw [k1, k2, k3]; rfl
  refine (stat_any w0.heap.size w r T p (by omega) hT).mono ?_
  rintro ex w' ⟨rfl, hbw⟩
  refine ⟨sizeT e T.L, by rw [hst, hfe], hbw, ?_⟩
  obtain ⟨T2, a1, a2, a3, a4, a5⟩ := h'.below hbw
  exact ⟨T2, a1, by rw [a2, vat_succ ho, vnext_has], a3, a4.mono (by omega), a5⟩
end
end Go.Proofs.YthcjjekkjbidlaaDoor.Sr
/-
  The plain law of StatixHonest: what is entered tells what a file was.
-/
namespace Go.Proofs.YthcjjekkjbidlaaDoor.Sr
open Go.RowKit Go.Maps Go.WideMaps Go.Proofs.YthcjjekkjbidlaaDoor.Rf Go.Proofs.YthcjjekkjbidlaaDoor.Nm Go.Proofs.YthcjjekkjbidlaaDoor.St

/-! ### a node's path, read again -/
theorem enc_no47 (r : Nat) (hg : goodRune r = true) (h : r ≠ 47) : ∀ c ∈ enc r, c ≠ 47 := by
  have hg' := hg
  simp only [goodRune, Bool.or_eq_true, Bool.and_eq_true, decide_eq_true_eq] at hg'
  have key : ∀ n, n < 256 → n ≠ 47 → UInt8.ofNat n ≠ 47 := fun n h1 h2 e => by
    have := congrArg UInt8.toNat e
    rw [byte_ofNat h1] at this; exact h2 this
  by_cases a1 : r < 128
  · rw [enc_1 a1]; intro c hc; simp only [List.mem_singleton] at hc; subst hc; exact key _ (by omega) h
  by_cases a2 : r < 2048
  · rw [enc_2 a1 a2]; intro c hc; simp only [List.mem_cons, List.not_mem_nil, or_false] at hc
    rcases hc with rfl | rfl <;> exact key _ (by omega) (by omega)
  by_cases a3 : r < 65536
  · rw [enc_3 hg a2 a3]; intro c hc; simp only [List.mem_cons, List.not_mem_nil, or_false] at hc
    rcases hc with rfl | rfl | rfl <;> exact key _ (by omega) (by omega)
  · rw [enc_4 hg a3]; intro c hc; simp only [List.mem_cons, List.not_mem_nil, or_false] at hc
    rcases hc with rfl | rfl | rfl | rfl <;> exact key _ (by omega) (by omega)
theorem fine_slash {a : List UInt8} (hok : okB a = true) (h : runesFine a = true) : (47 : UInt8) ∉ a := by
  intro hc
  obtain ⟨h1, h2⟩ := encs_runes a hok
  rw [← h1, encs, List.mem_flatMap] at hc
  obtain ⟨r, hr, hc⟩ := hc
  have hf : fine r = true := by
    obtain ⟨q, hq, rfl⟩ := List.mem_map.1 hr
    exact List.all_eq_true.1 h q hq
  have h47 : r ≠ 47 := by
    rintro rfl
    cases hf
  exact enc_no47 r (h2 r hr) h47 47 hc rfl
theorem inos_inj {L : List TE} (h : L.Pairwise fun a b => a.ino ≠ b.ino) {a b : TE} (ha : a ∈ L) (hb : b ∈ L) (he : a.ino = b.ino) : a = b := by
  induction L with
  | nil => cases ha
  | cons y r ih =>
    obtain ⟨h1, h2⟩ := List.pairwise_cons.1 h
    rcases List.mem_cons.1 ha with ha | ha <;> rcases List.mem_cons.1 hb with hb | hb
    · rw [ha, hb]
    · exact absurd (by rw [← ha]; exact he) (h1 b hb)
    · exact absurd (by rw [← hb]; exact he.symm) (h1 a ha)
    · exact ih h2 ha hb
theorem chk_slash {a : List UInt8} (h : chk a = true) : ∀ c ∈ a, c ≠ 47 := by
  intro c hc h47
  subst h47
  simp only [chk, Bool.and_eq_true, lenFine] at h
  have h2 := h.2
  have hok : okB a = true := h.1.1.1.1.1.1
  exact absurd hc (fine_slash hok h2)
theorem parts_path : ∀ {n : PN}, n ≠ [] → (∀ s ∈ n, chk s = true) → parts ((pathOf n).drop 1) = n
  | [], h, _ => absurd rfl h
  | [a], _, h => by
    have h1 := chk_slash (h a (by simp))
    rw [pathOf, List.flatMap_cons, List.flatMap_nil, List.append_nil, List.drop_succ_cons, List.drop_zero]
    exact parts_none a h1
  | a :: b :: r, _, h => by
    have h1 := chk_slash (h a (by simp))
    have ih := parts_path (n := b :: r) (by simp) (fun s hs => h s (List.mem_cons_of_mem _ hs))
    have e : (pathOf (a :: b :: r)).drop 1 = a ++ 47 :: ((pathOf (b :: r)).drop 1) := by
      simp [pathOf, List.flatMap_cons]
    rw [e, parts_hit _ _ h1, ih]
theorem path_count : ∀ {n : PN}, (∀ s ∈ n, chk s = true) → (pathOf n).count 47 = n.length
  | [], _ => rfl
  | a :: r, h => by
    have h1 := chk_slash (h a (by simp))
    have ih := path_count (n := r) (fun s hs => h s (List.mem_cons_of_mem _ hs))
    rw [pathOf] at ih ⊢
    rw [List.flatMap_cons, List.count_append, List.count_cons_self, ih, List.count_eq_zero.2 (fun hc => h1 47 hc rfl), List.length_cons]
    omega
theorem split_path {n : PN} (hl : n.length ≤ 16) (h : ∀ s ∈ n, chk s = true) : splitP (pathN n) = some n := by
  cases n with
  | nil => rfl
  | cons a r =>
    have hne : pathOf (a :: r) ≠ [] := by simp [pathOf, List.flatMap_cons]
    rw [pathN, if_neg hne]
    have h47 : pathOf (a :: r) ≠ [47] := by
      have ha := (chk_le (h a (by simp))).2
      intro he
      rw [pathOf, List.flatMap_cons] at he
      simp at he
      exact ha he.1
    rw [splitP, if_neg h47, if_pos]
    · rw [parts_path (by simp) h]
    · rw [parts_path (by simp) h, path_count h]
      simp only [Bool.and_eq_true, decide_eq_true_eq]
      refine ⟨⟨(hasPrefix_one _).2 ⟨a ++ pathOf r, by simp [pathOf, List.flatMap_cons]⟩, hl⟩, List.all_eq_true.2 h⟩
theorem Good.split {k : Nat} {T : Tr} (h : Good k T) {e : TE} (he : e ∈ T.L) : splitE (pathN e.nm) = 0 ∧ splitL (pathN e.nm) = e.nm := by
  have := split_path (h.deep e he) (h.names e he)
  rw [splitE, splitL, this]; exact ⟨rfl, rfl⟩

/-! ### what the law keeps -/
/-- The entries, the bytes kept beside them, the numbers kept beside them. -/
structure HonRel (T : Tr) (X : List SE) (D : MV (List UInt8)) (K : MV (Nat × Int)) : Prop where
  srt : Srt X
  keyD : ∀ p, (getM D p).isSome = (getL p X).isSome
  ent : ∀ e ∈ X, ∃ b, getM D e.path = some b ∧ getM K e.path = some (e.ino, e.tick) ∧ e.node = 1 ∧ e.size = (b.length : Int) ∧ e.ino ≤ T.most ∧ e.tick ≤ (T.clock : Int) ∧ ∀ x ∈ T.L, x.ino = e.ino → x.tick = e.tick → x.data = b ∧ x.at_.node = 1
theorem HonRel.hist {T T' : Tr} {X : List SE} {D : MV (List UInt8)} {K : MV (Nat × Int)} (h : HonRel T X D K) (hh : Hist T T') : HonRel T' X D K := by
  refine ⟨h.srt, h.keyD, fun e he => ?_⟩
  obtain ⟨b, h1, h2, h3, h4, h5, h6, h7⟩ := h.ent e he
  refine ⟨b, h1, h2, h3, h4, Nat.le_trans h5 hh.most, Int.le_trans h6 (by have := hh.clock; omega), fun x' hx' hi ht => ?_⟩
  rcases hh.node x' hx' with ⟨x, hx, e1, e2, e3, e4⟩ | ⟨e1, _⟩
  · have := h7 x hx (by rw [← e1, hi]) (by rw [← e4, ht])
    rw [e2, e3]; exact this
  · rw [e1] at ht; omega
theorem HonRel.nil (T : Tr) : HonRel T [] [] [] := ⟨List.Pairwise.nil, fun _ => rfl, fun _ h => by cases h⟩
end Go.Proofs.YthcjjekkjbidlaaDoor.Sr
/-
  The plain law of SourceHonest: what a node was ahead of a call; the names in a folder as paths tell them. No walk stands in this text.
-/
namespace Go.Proofs.YthcjjekkjbidlaaDoor.Sr
open Go.RowKit Go.Maps Go.WideMaps Go.Proofs.YthcjjekkjbidlaaDoor.Rf Go.Proofs.YthcjjekkjbidlaaDoor.Nm Go.Proofs.YthcjjekkjbidlaaDoor.St

theorem tickT_map (c : Int) : ∀ (qs : List Nat) (L : List TE), tickT qs c L = L.map fun x => if x.p ∈ qs then { x with tick := c } else x
  | [], L => by
    show L = _
    simp
  | q :: r, L => by
    show tickT r c (tick1 q c L) = _
    rw [tickT_map c r, tick1, List.map_map]
    refine List.map_congr_left (fun x _ => ?_)
    show (if (if x.p = q then ({ x with tick := c } : TE) else x).p ∈ r then _ else _) = _
    by_cases h : x.p = q
    · simp [h]
    · simp [h]
theorem kids_tickT (c : Int) (qs : List Nat) (L : List TE) (n : PN) : kidsT (tickT qs c L) n = kidsT L n := by
  rw [tickT_map]
  refine kidsT_map (fun e _ => ?_) (fun e _ => ?_) n <;> (split <;> rfl)
/-- What each node was ahead of a call. -/
def Was (T T' : Tr) : Prop :=
  ∀ x' ∈ T'.L, (∃ x ∈ T.L, x'.ino = x.ino ∧ x'.data = x.data ∧ x'.at_ = x.at_ ∧ x'.tick = x.tick ∧ kidsT T'.L x'.nm = kidsT T.L x.nm) ∨
    (x'.tick = ((T.clock + 1 : Nat) : Int) ∧ T'.clock = T.clock + 1 ∧ ((∃ x ∈ T.L, x'.ino = x.ino) ∨ x'.ino = T.most + 1))
theorem ChT.was {B : Nat} {w : World} {r : Nat} {T T' : Tr} (hT : TreeAt B w r T) (h : ChT T T') : Was T T' := by
  intro x' hx'
  cases h with
  | same => exact .inl ⟨x', hx', rfl, rfl, rfl, rfl, rfl⟩
  | add n u hu hun hno hi ht hc hd ha hnm =>
    have hk := kids_tickT ((T.clock + 1 : Nat) : Int) [n.p, u.p] (insT n T.L)
    have hx2 : x' ∈ tickT [n.p, u.p] ((T.clock + 1 : Nat) : Int) (insT n T.L) := hx'
    show (∃ x ∈ T.L, _ ∧ _ ∧ _ ∧ _ ∧ kidsT (tickT [n.p, u.p] _ (insT n T.L)) x'.nm = _) ∨ _
    rw [hk]
    rw [tickT_map] at hx2
    obtain ⟨y, hy, rfl⟩ := List.mem_map.1 hx2
    by_cases hq : y.p ∈ [n.p, u.p]
    · rw [if_pos hq]
      refine .inr ⟨rfl, rfl, ?_⟩
      rcases mem_insT.1 hy with rfl | hy
      · exact .inr hi
      · exact .inl ⟨y, hy, rfl⟩
    · rw [if_neg hq]
      have hyT : y ∈ T.L := by
        rcases mem_insT.1 hy with rfl | hy
        · exact absurd (by simp) hq
        · exact hy
      refine .inl ⟨y, hyT, rfl, rfl, rfl, rfl, kids_put_other (fun s hs => ?_)⟩
      have hyu : y.nm = u.nm := by rw [hun.2, hs]; simp
      have := srtT_inj hT.srt hyT hu hyu
      exact hq (by rw [this]; simp)
  | upd n n' hn hs hc hd ha =>
    have hinj : ∀ x ∈ T.L, x.p = n.p → x = n := fun x hx hxp => hT.p_inj hx hn hxp
    have hf := updT_facts (e' := n') hinj hs.1 hs.2.2.1 hs.2.2.2.1
    have hk : ∀ m, kidsT (tickT [n.p] ((T.clock + 1 : Nat) : Int) (updT n' T.L)) m = kidsT T.L m := fun m => by
      rw [kids_tickT, updT]
      exact kidsT_map (fun e he => (hf e he).1) (fun e he => (hf e he).2.1) m
    have hx2 : x' ∈ tickT [n.p] ((T.clock + 1 : Nat) : Int) (updT n' T.L) := hx'
    show (∃ x ∈ T.L, _ ∧ _ ∧ _ ∧ _ ∧ kidsT (tickT [n.p] _ (updT n' T.L)) x'.nm = _) ∨ _
    rw [hk]
    rw [tickT_map] at hx2
    obtain ⟨y, hy, rfl⟩ := List.mem_map.1 hx2
    obtain ⟨x, hx, rfl⟩ := List.mem_map.1 hy
    by_cases hp : x.p = n'.p
    · rw [if_pos hp, if_pos (by rw [hs.2.2.1]; simp)]
      exact .inr ⟨rfl, rfl, .inl ⟨n, hn, hs.2.1⟩⟩
    · rw [if_neg hp, if_neg (by rw [← hs.2.2.1]; simpa using hp)]
      exact .inl ⟨x, hx, rfl, rfl, rfl, rfl, rfl⟩
  | del n u hn hne hu hun hc =>
    have hx2 : x' ∈ tickT [u.p] ((T.clock + 1 : Nat) : Int) (dropT n.nm T.L) := hx'
    show (∃ x ∈ T.L, _ ∧ _ ∧ _ ∧ _ ∧ kidsT (tickT [u.p] _ (dropT n.nm T.L)) x'.nm = _) ∨ _
    rw [kids_tickT]
    rw [tickT_map] at hx2
    obtain ⟨y, hy, rfl⟩ := List.mem_map.1 hx2
    obtain ⟨hyT, hyn⟩ := dropT_mem.1 hy
    by_cases hq : y.p ∈ [u.p]
    · rw [if_pos hq]
      exact .inr ⟨rfl, rfl, .inl ⟨y, hyT, rfl⟩⟩
    · rw [if_neg hq]
      refine .inl ⟨y, hyT, rfl, rfl, rfl, rfl, ?_⟩
      have hnn := (List.dropLast_concat_getLast hne).symm
      rw [hnn] at hyn ⊢
      rw [kids_drop hT.srt hyn, if_neg]
      intro hy0
      have := srtT_inj hT.srt hyT hu (hy0.trans hun.symm)
      exact hq (by rw [this]; simp)
  | move a0 b0 sa sb n u d k hu hun hc hb hnm =>
    have hx2 : x' ∈ tickT [u.p, d.p] ((T.clock + 1 : Nat) : Int) (moveT (a0 ++ [sa]) (b0 ++ [sb]) T.L) := hx'
    show (∃ x ∈ T.L, _ ∧ _ ∧ _ ∧ _ ∧ kidsT (tickT [u.p, d.p] _ (moveT (a0 ++ [sa]) (b0 ++ [sb]) T.L)) x'.nm = _) ∨ _
    rw [kids_tickT]
    rw [tickT_map] at hx2
    obtain ⟨y, hy, rfl⟩ := List.mem_map.1 hx2
    obtain ⟨x, hx, rfl⟩ := moveT_mem.1 hy
    have hpar := hT.parT
    by_cases hq : (renE (renP (a0 ++ [sa]) (b0 ++ [sb])) x).p ∈ [u.p, d.p]
    · rw [if_pos hq]
      exact .inr ⟨rfl, rfl, .inl ⟨x, hx, rfl⟩⟩
    · rw [if_neg hq]
      refine .inl ⟨x, hx, rfl, rfl, rfl, rfl, ?_⟩
      show kidsT _ (renP _ _ x.nm) = _
      by_cases h3 : (a0 ++ [sa]) <+: x.nm
      · obtain ⟨t, ht⟩ := h3
        rw [← ht, renP_in, kids_moved k hT.srt hpar]
      · have h1 : x.nm ≠ b0 := fun h => hq (by
          have := srtT_inj hT.srt hx k.dmem (h.trans k.dname.symm)
          show x.p ∈ _
          rw [this]; simp)
        have h2 : x.nm ≠ a0 := fun h => hq (by
          have := srtT_inj hT.srt hx hu (h.trans hun.symm)
          show x.p ∈ _
          rw [this]; simp)
        rw [renP_out h3, kids_stay k hT.srt hpar hx h3, kidM, if_neg h1, if_neg h2]

/-! ### the names in a folder, as paths tell them -/
theorem pathOf_cons (a : List UInt8) (r : PN) : pathOf (a :: r) = 47 :: (a ++ pathOf r) := by simp [pathOf, List.flatMap_cons]
theorem split47 : ∀ {a b x y : List UInt8}, (∀ c ∈ a, c ≠ 47) → (∀ c ∈ b, c ≠ 47) → (x = [] ∨ ∃ t, x = 47 :: t) → (y = [] ∨ ∃ t, y = 47 :: t) → a ++ x = b ++ y → a = b ∧ x = y
  | [], [], _, _, _, _, _, _, h => ⟨rfl, by simpa using h⟩
  | [], b :: bs, x, y, _, hb, hx, _, h => by
    rcases hx with rfl | ⟨t, rfl⟩
    · simp at h
    · rw [List.nil_append, List.cons_append] at h
      injection h with h _
      exact absurd h.symm (hb b (by simp))
  | a :: ar, [], x, y, ha, _, _, hy, h => by
    rcases hy with rfl | ⟨t, rfl⟩
    · simp at h
    · rw [List.nil_append, List.cons_append] at h
      injection h with h _
      exact absurd h (ha a (by simp))
  | a :: ar, b :: bs, x, y, ha, hb, hx, hy, h => by
    rw [List.cons_append, List.cons_append] at h
    injection h with h1 h2
    obtain ⟨h3, h4⟩ := split47 (fun c hc => ha c (List.mem_cons_of_mem _ hc)) (fun c hc => hb c (List.mem_cons_of_mem _ hc)) hx hy h2
    exact ⟨by rw [h1, h3], h4⟩
theorem pathOf_head (n : PN) : pathOf n = [] ∨ ∃ t, pathOf n = 47 :: t := by
  cases n with
  | nil => exact .inl rfl
  | cons a r => exact .inr ⟨_, pathOf_cons a r⟩
theorem path_under : ∀ {n m : PN} {x : List UInt8}, (∀ s ∈ n, chk s = true) → (∀ s ∈ m, chk s = true) → pathOf n ++ 47 :: x = pathOf m → ∃ t, m = n ++ t ∧ 47 :: x = pathOf t
  | [], m, x, _, _, h => ⟨m, rfl, h⟩
  | a :: r, [], x, _, _, h => by rw [pathOf_cons] at h; cases h
  | a :: r, b :: s, x, hn, hm, h => by
    rw [pathOf_cons, pathOf_cons, List.cons_append, List.append_assoc] at h
    injection h with _ h
    have hh : ∃ t, pathOf r ++ 47 :: x = 47 :: t := by
      rcases pathOf_head r with h1 | ⟨t, h1⟩ <;> rw [h1]
      · exact ⟨_, rfl⟩
      · exact ⟨_, rfl⟩
    obtain ⟨h1, h2⟩ := split47 (chk_slash (hn a (by simp))) (chk_slash (hm b (by simp))) (.inr hh) (pathOf_head s) h
    obtain ⟨t, ht, hx⟩ := path_under (fun s hs => hn s (List.mem_cons_of_mem _ hs)) (fun s hs => hm s (List.mem_cons_of_mem _ hs)) h2
    exact ⟨t, by rw [h1, ht]; rfl, hx⟩
theorem pathOf_app (a b : PN) : pathOf (a ++ b) = pathOf a ++ pathOf b := by simp [pathOf]
/-- The name that a path has in a folder's. -/
def kidS (P p : List UInt8) : Option (List UInt8) :=
  if p.length ≤ P.length + 1 then none else if p.take (P.length + 1) ≠ P ++ [47] then none else if 47 ∈ p.drop (P.length + 1) then none else some (p.drop (P.length + 1))
theorem kidS_kid {n : PN} {e : TE} (hn : ∀ s ∈ n, chk s = true) (he : ∀ s ∈ e.nm, chk s = true) : kidS (pathOf n) (pathN e.nm) = (kidOf n e).map (·.1) := by
  cases hk : kidOf n e with
  | some k =>
    obtain ⟨h1, _⟩ := kidOf_some.1 hk
    have hne : pathOf e.nm ≠ [] := by rw [h1, pathOf_app]; simp [pathOf]
    have hp : pathN e.nm = pathOf n ++ [47] ++ k.1 := by
      rw [pathN, if_neg hne, h1, pathOf_app]
      simp [pathOf]
    have hck := he k.1 (by rw [h1]; simp)
    have h2 := (chk_le hck).2
    have hl : 0 < k.1.length := List.length_pos_iff.2 h2
    have h47 := chk_slash hck
    rw [hp, kidS]
    have e1 : (pathOf n ++ [47]).length = (pathOf n).length + 1 := by simp
    rw [if_neg (by simp; omega), ← e1, List.take_left, List.drop_left, if_neg (by simp), if_neg (fun h => h47 47 h rfl)]
    rfl
  | none =>
    rw [Option.map_none, kidS]
    split
    · rfl
    · next h1 =>
      split
      · rfl
      · next h2 =>
        split
        · rfl
        · next h3 =>
          exfalso
          have hne : pathOf e.nm ≠ [] := fun h0 => by
            rw [pathN, if_pos h0] at h1
            exact h1 (by simp)
          rw [pathN, if_neg hne] at h1 h2 h3
          simp only [ne_eq, Decidable.not_not] at h2
          have h4 : pathOf n ++ 47 :: (pathOf e.nm).drop ((pathOf n).length + 1) = pathOf e.nm := by
            have := List.take_append_drop ((pathOf n).length + 1) (pathOf e.nm)
            rw [h2, List.append_assoc] at this
            exact this
          obtain ⟨t, ht, hx⟩ := path_under hn he h4
          have hct := path_count (n := t) (fun s hs => he s (by rw [ht]; exact List.mem_append_right _ hs))
          rw [← hx, List.count_cons_self, List.count_eq_zero.2 h3] at hct
          match t, hct with
          | [s], _ =>
            have := (kidOf_some (n := n) (e := e) (k := (s, e.p))).2 ⟨ht, rfl⟩
            rw [hk] at this; cases this
/-- The names in a folder. -/
def namesT (L : List TE) (n : PN) : List (List UInt8) := (kidsT L n).map (·.1)
theorem namesT_paths {L : List TE} {n : PN} (hn : ∀ s ∈ n, chk s = true) (hL : ∀ e ∈ L, ∀ s ∈ e.nm, chk s = true) : namesT L n = L.filterMap fun e => kidS (pathOf n) (pathN e.nm) := by
  rw [namesT, kidsT, List.map_filterMap]
  induction L with
  | nil => rfl
  | cons y r ih =>
    have ih := ih (fun e he => hL e (List.mem_cons_of_mem _ he))
    rw [List.filterMap_cons, List.filterMap_cons, ih, kidS_kid hn (hL y (by simp))]
theorem namesT_len (L : List TE) (n : PN) : (namesT L n).length ≤ L.length := by
  rw [namesT, List.length_map]; exact kids_le L n
end Go.Proofs.YthcjjekkjbidlaaDoor.Sr
