import Derived.Test.YthcjjekkjbidlaaDoorZPSrHnPlain
import Derived.Test.YthcjjekkjbidlaaDoorZPSrList
import Derived.Test.YthcjjekkjbidlaaDoorZPSrNew
set_option linter.unusedSimpArgs false
set_option linter.unusedVariables false
/-
  SourceWhole without a walk: each node but the root is in one folder; what is moved there and back is as it was.
-/
namespace Go.Proofs.YthcjjekkjbidlaaDoor.Sr
open Go.RowKit Go.Maps Go.WideMaps Go.Proofs.YthcjjekkjbidlaaDoor.Rf Go.Proofs.YthcjjekkjbidlaaDoor.Nm Go.Proofs.YthcjjekkjbidlaaDoor.St

/-! ### counting the entries of all folders -/
section
variable {α β : Type}
theorem sum_map_add (f g : α → Nat) : ∀ A : List α, (A.map fun a => f a + g a).sum = (A.map f).sum + (A.map g).sum
  | [] => rfl
  | a :: r => by simp only [List.map_cons, List.sum_cons, sum_map_add f g r]; omega
theorem sum_ite (p : α → Bool) : ∀ A : List α, (A.map fun a => if p a then 1 else 0).sum = A.countP p
  | [] => rfl
  | a :: r => by
    rw [List.map_cons, List.sum_cons, sum_ite p r, List.countP_cons]
    omega
theorem sum_swap (R : α → β → Bool) : ∀ (A : List α) (B : List β), (A.map fun a => B.countP (R a)).sum = (B.map fun b => A.countP fun a => R a b).sum
  | [], B => by
    simp only [List.map_nil, List.sum_nil, List.countP_nil]
    induction B with
    | nil => rfl
    | cons b r ih => simp only [List.map_cons, List.sum_cons, ← ih, Nat.add_zero]
  | a :: A, B => by
    rw [List.map_cons, List.sum_cons, sum_swap R A B, ← sum_ite (R a) B, ← sum_map_add]
    congr 1
    refine List.map_congr_left (fun b _ => ?_)
    rw [List.countP_cons]; omega
end
theorem count_nm {n : PN} : ∀ {L : List TE}, SrtT L → (∃ e ∈ L, e.nm = n) → L.countP (fun e => decide (e.nm = n)) = 1
  | [], _, ⟨_, h, _⟩ => by cases h
  | y :: r, hs, ⟨e, he, hn⟩ => by
    obtain ⟨h1, h2⟩ := List.pairwise_cons.1 hs
    rw [List.countP_cons]
    by_cases hy : y.nm = n
    · have : r.countP (fun e => decide (e.nm = n)) = 0 := by
        rw [List.countP_eq_zero]
        intro x hx hxn
        have := ahd_ne (h1 x hx)
        exact this (by rw [hy]; exact (of_decide_eq_true hxn).symm)
      rw [this, if_pos (by simpa using hy)]
    · rw [if_neg (by simpa using hy), Nat.add_zero]
      rcases List.mem_cons.1 he with rfl | he
      · exact absurd hn hy
      · exact count_nm h2 ⟨e, he, hn⟩
theorem namesT_count (L : List TE) (n : PN) : (namesT L n).length = L.countP fun x => (kidOf n x).isSome := by
  rw [namesT, List.length_map, kidsT, List.length_filterMap_eq_countP]
/-- All folders' entries together are all nodes but the root. -/
theorem sum_names {L : List TE} (hs : SrtT L) (hp : ParT L) (hr : ∃ e ∈ L, e.nm = []) : (L.map fun e => (namesT L e.nm).length).sum + 1 = L.length := by
  have h1 : (L.map fun e => (namesT L e.nm).length) = L.map fun e => L.countP fun x => (kidOf e.nm x).isSome := List.map_congr_left (fun e _ => namesT_count L e.nm)
  rw [h1, sum_swap (fun (e x : TE) => (kidOf e.nm x).isSome) L L]
  have h2 : (L.map fun x => L.countP fun e => (kidOf e.nm x).isSome) = L.map fun x => if (!decide (x.nm = [])) then 1 else 0 := by
    refine List.map_congr_left (fun x hx => ?_)
    by_cases hn : x.nm = []
    · rw [if_neg (by simp [hn]), List.countP_eq_zero]
      intro e _ he
      simp [kidOf, hn] at he
    · rw [if_pos (by simp [hn])]
      have hnn := (List.dropLast_concat_getLast hn).symm
      obtain ⟨u, hu, hun⟩ := hp x hx _ _ hnn
      rw [← count_nm hs ⟨u, hu, hun⟩]
      refine congrArg (fun f => L.countP f) (funext fun e => ?_)
      rw [Bool.eq_iff_iff, decide_eq_true_iff]
      constructor
      · intro h
        obtain ⟨k, hk⟩ := Option.isSome_iff_exists.1 h
        rw [(kidOf_some.1 hk).1]; simp
      · intro h
        exact Option.isSome_iff_exists.2 ⟨(x.nm.getLast hn, x.p), kidOf_some.2 ⟨by rw [h]; exact hnn, rfl⟩⟩
  rw [h2, sum_ite (fun x : TE => !decide (x.nm = [])) L]
  have h3 := count_nm hs hr
  have h4 := List.length_eq_countP_add_countP (l := L) (fun e : TE => decide (e.nm = []))
  have h5 : L.countP (fun a => decide ¬(fun e : TE => decide (e.nm = [])) a = true) = L.countP (fun x => !decide (x.nm = [])) := by
    refine congrArg (fun f => L.countP f) (funext fun e => ?_)
    by_cases h : e.nm = [] <;> simp [h]
  rw [h5, h3] at h4
  omega
theorem namesT_file {B : Nat} {w : World} {r : Nat} {T : Tr} (h : TreeAt B w r T) {e : TE} (he : e ∈ T.L) (hn : e.at_.node ≠ 2) : namesT T.L e.nm = [] := by
  have hm : e.m = none := by
    cases hm : e.m with
    | none => rfl
    | some b => exact absurd ((h.kind e he).2 (by rw [hm]; simp)) hn
  rw [namesT, List.map_eq_nil_iff, List.eq_nil_iff_forall_not_mem]
  intro k hk
  obtain ⟨x, hx, h1, _⟩ := kidsT_mem.1 hk
  obtain ⟨u, hu, h2, h3⟩ := h.par x hx _ _ h1
  rw [srtT_inj h.srt hu he h2] at h3
  exact h3 hm
theorem root_first {L : List TE} (hs : SrtT L) {e : TE} (he : getT [] L = some e) : L[0]? = some e := by
  obtain ⟨hm, hn⟩ := getT_nm he
  cases L with
  | nil => cases hm
  | cons y r =>
    rcases List.mem_cons.1 hm with rfl | hm
    · rfl
    · have := (List.pairwise_cons.1 hs).1 e hm
      rw [hn] at this
      cases hy : y.nm with
      | nil => rw [hy] at this; cases this
      | cons a b => rw [hy] at this; cases this

/-! ### there and back -/
structure MvFacts (T : Tr) (p q : List UInt8) (n u d : TE) (sa sb : List UInt8) : Prop where
  hp : splitL p = u.nm ++ [sa]
  hq : splitL q = d.nm ++ [sb]
  ep : splitE p = 0
  eq : splitE q = 0
  ok : MoveOk u.nm d.nm sa sb T.L n d
  hu : u ∈ T.L
  hu2 : u.at_.node = 2
  hd2 : d.at_.node = 2
  clk : T.clock < 1099511627776
  tr : moveTr p q T = { T with clock := T.clock + 1, L := tickT [u.p, d.p] ((T.clock + 1 : Nat) : Int) (moveT (u.nm ++ [sa]) (d.nm ++ [sb]) T.L) }
theorem move_facts {B : Nat} {w : World} {r : Nat} {T : Tr} {p q : List UInt8} (hT : TreeAt B w r T) (h0 : moveE p q T = 0) : ∃ n u d sa sb, MvFacts T p q n u d sa sb := by
  have hM := h0
  rw [moveE] at hM
  by_cases hp : splitE p ≠ 0
  · rw [if_pos hp] at hM; cases hM
  rw [if_neg hp] at hM
  by_cases hq : splitE q ≠ 0
  · rw [if_pos hq] at hM; cases hM
  rw [if_neg hq] at hM
  cases hg : getT (splitL p) T.L with
  | none => rw [hg] at hM; cases hM
  | some n =>
    rw [hg] at hM
    dsimp only at hM
    by_cases c1 : splitL p = [] ∨ ((splitL p).length < (splitL q).length ∧ splitL p = (splitL q).take (splitL p).length)
    · rw [if_pos c1] at hM; cases hM
    rw [if_neg c1] at hM
    have hne : splitL p ≠ [] := fun h => c1 (.inl h)
    by_cases c2 : (getT (splitL q) T.L).isSome = true
    · rw [if_pos c2] at hM; cases hM
    rw [if_neg c2] at hM
    by_cases c3 : abvE (splitL q) T.L ≠ 0
    · rw [if_pos c3] at hM; exact absurd hM c3
    rw [if_neg c3] at hM
    have c3 : abvE (splitL q) T.L = 0 := Classical.not_not.1 c3
    have hqne : splitL q ≠ [] := by
      intro hc
      obtain ⟨e, he, _⟩ := hT.root
      rw [hc, he] at c2; exact c2 rfl
    obtain ⟨hnm, hnn⟩ := getT_nm hg
    obtain ⟨u, _, sa, hu, hua, hun, _, hgu, hu2⟩ := hT.up hnm (by rw [hnn]; exact hne)
    rw [hnn] at hun hgu hua
    cases hgd : getT (splitL q).dropLast T.L with
    | none => rw [abvE, hgd] at c3; cases c3
    | some d =>
      obtain ⟨hdm, hdn⟩ := getT_nm hgd
      have hd2 : d.at_.node = 2 := by
        rw [abvE, hgd] at c3
        dsimp only at c3
        split at c3
        · next h => exact h
        · cases c3
      have hqs : splitL q = d.nm ++ [(splitL q).getLast hqne] := by rw [hdn]; exact (List.dropLast_concat_getLast hqne).symm
      have hcl : T.clock < 1099511627776 := by
        by_cases c4 : 16 < (splitL q).length + deepN T.L (splitL p)
        · rw [if_pos c4] at hM; cases hM
        · rw [if_neg c4] at hM
          split at hM
          · cases hM
          · next h => exact Nat.lt_of_not_le (fun hh => h (.inr hh))
      refine ⟨n, u, d, sa, (splitL q).getLast hqne, hua, hqs, Classical.not_not.1 hp, Classical.not_not.1 hq, ⟨hnm, by rw [hnn]; exact hua, ?_, ?_, hdm, rfl, (hT.kind d hdm).1 hd2⟩, hu, hu2, hd2, hcl, ?_⟩
      · rw [← hqs]
        cases hc : getT (splitL q) T.L with
        | none => rfl
        | some x => rw [hc] at c2; exact absurd rfl c2
      · rw [← hqs, ← hua]
        intro hpre
        have hle := hpre.length_le
        by_cases hlt : (splitL p).length < (splitL q).length
        · exact c1 (.inr ⟨hlt, List.prefix_iff_eq_take.1 hpre⟩)
        · have := hpre.eq_of_length (by omega)
          rw [← this, hg] at c2
          exact c2 rfl
      · rw [moveTr, if_pos h0, hgu, hgd, ← hqs, ← hua]
theorem tick_mem {qs : List Nat} {c : Int} {L : List TE} {x' : TE} (h : x' ∈ tickT qs c L) : ∃ x ∈ L, x'.nm = x.nm ∧ x'.ino = x.ino ∧ x'.at_ = x.at_ ∧ x'.data = x.data ∧ x'.p = x.p ∧ (x'.tick = x.tick ∨ x.p ∈ qs) := by
  rw [tickT_map] at h
  obtain ⟨x, hx, rfl⟩ := List.mem_map.1 h
  refine ⟨x, hx, ?_⟩
  by_cases hq : x.p ∈ qs
  · rw [if_pos hq]; exact ⟨rfl, rfl, rfl, rfl, rfl, .inr hq⟩
  · rw [if_neg hq]; exact ⟨rfl, rfl, rfl, rfl, rfl, .inl rfl⟩
theorem mem_tick {qs : List Nat} {c : Int} {L : List TE} {x : TE} (h : x ∈ L) : ∃ x' ∈ tickT qs c L, x'.nm = x.nm ∧ x'.at_ = x.at_ ∧ x'.p = x.p := by
  rw [tickT_map]
  refine ⟨_, List.mem_map.2 ⟨x, h, rfl⟩, ?_⟩
  by_cases hq : x.p ∈ qs
  · rw [if_pos hq]; exact ⟨rfl, rfl, rfl⟩
  · rw [if_neg hq]; exact ⟨rfl, rfl, rfl⟩
/-- A node without its tick and its place. -/
def strip (e : TE) : TE := { e with tick := 0, p := 0, m := none, xv := .slice none 0 0 }
theorem strip_tick (qs : List Nat) (c : Int) (L : List TE) : (tickT qs c L).map strip = L.map strip := by
  rw [tickT_map, List.map_map]
  refine List.map_congr_left (fun x _ => ?_)
  show strip (if x.p ∈ qs then _ else x) = strip x
  split <;> rfl
theorem strip_srt {L : List TE} (h : SrtT L) : SrtT (L.map strip) := by
  rw [SrtT, List.pairwise_map]; exact h
theorem strip_move (a b : PN) (L : List TE) : ((moveT a b L).map strip).Perm ((L.map strip).map (renE (renP a b))) := by
  have h := (sortT_perm (L.map (renE (renP a b)))).map strip
  rw [List.map_map] at h
  rw [List.map_map]
  exact h
section
variable {B : Nat} {w w1 : World} {r k : Nat} {T : Tr} {p q : List UInt8}
/-- What is moved can be moved back. -/
theorem move_back (hT : TreeAt B w r T) (hG : Good k T) (hk : k ≤ 100) (hc : T.clock ≤ 1000) (h0 : moveE p q T = 0) (hT1 : TreeAt B w1 r (moveTr p q T)) : moveE q p (moveTr p q T) = 0 := by
  obtain ⟨n, u, d, sa, sb, F⟩ := move_facts hT h0
  have hpar := hT.parT
  have hL : (moveTr p q T).L = tickT [u.p, d.p] ((T.clock + 1 : Nat) : Int) (moveT (u.nm ++ [sa]) (d.nm ++ [sb]) T.L) := by rw [F.tr]
  have hC : (moveTr p q T).clock = T.clock + 1 := by rw [F.tr]
  have hnb : ¬ (d.nm ++ [sb]) <+: (u.nm ++ [sa]) := fun h => F.ok.below hpar F.ok.mem (by rw [F.ok.name]; exact h)
  have hsrc : ∀ x ∈ (moveTr p q T).L, ∃ y ∈ T.L, x.nm = renP (u.nm ++ [sa]) (d.nm ++ [sb]) y.nm ∧ x.at_ = y.at_ := by
    intro x hx
    rw [hL] at hx
    obtain ⟨x1, hx1, h1, _, h2, _⟩ := tick_mem hx
    obtain ⟨y, hy, rfl⟩ := moveT_mem.1 hx1
    exact ⟨y, hy, h1, h2⟩
  have hdst : ∀ y ∈ T.L, ∃ x ∈ (moveTr p q T).L, x.nm = renP (u.nm ++ [sa]) (d.nm ++ [sb]) y.nm ∧ x.at_ = y.at_ := by
    intro y hy
    obtain ⟨x, hx, h1, h2, _⟩ := mem_tick (qs := [u.p, d.p]) (c := ((T.clock + 1 : Nat) : Int)) (moveT_mem (a := u.nm ++ [sa]) (b := d.nm ++ [sb]).2 ⟨y, hy, rfl⟩)
    rw [hL]
    exact ⟨x, hx, h1, h2⟩
  have hgb : ∃ x, getT (splitL q) (moveTr p q T).L = some x := by
    obtain ⟨x, hx, h1, _⟩ := hdst n F.ok.mem
    have h2 : x.nm = d.nm ++ [sb] := by
      rw [h1, F.ok.name]
      have := renP_in (a := u.nm ++ [sa]) (b := d.nm ++ [sb]) (t := [])
      rw [List.append_nil, List.append_nil] at this; exact this
    rw [F.hq, ← h2]
    exact ⟨x, getT_of hT1.srt hx⟩
  have hga : getT (splitL p) (moveTr p q T).L = none := by
    rw [getT_none]
    intro x hx hxn
    obtain ⟨y, hy, h1, _⟩ := hsrc x hx
    rw [F.hp] at hxn
    by_cases h3 : (u.nm ++ [sa]) <+: y.nm
    · obtain ⟨t, ht⟩ := h3
      rw [← ht, renP_in, hxn] at h1
      exact hnb ⟨t, h1.symm⟩
    · rw [renP_out h3] at h1
      exact h3 (by rw [← h1, hxn]; exact List.prefix_rfl)
  have hgu : ∃ x, getT u.nm (moveTr p q T).L = some x ∧ x.at_.node = 2 := by
    obtain ⟨x, hx, h1, h2⟩ := hdst u F.hu
    have h3 : ¬ (u.nm ++ [sa]) <+: u.nm := fun h => by have := h.length_le; rw [List.length_append, List.length_singleton] at this; omega
    rw [renP_out h3] at h1
    refine ⟨x, ?_, by rw [h2]; exact F.hu2⟩
    rw [← h1]; exact getT_of hT1.srt hx
  obtain ⟨xb, hxb⟩ := hgb
  obtain ⟨xu, hxu, hxu2⟩ := hgu
  have hdeep : (splitL p).length + deepN (moveTr p q T).L (splitL q) ≤ 16 := by
    have hal : (u.nm ++ [sa]).length ≤ 16 := by rw [← F.ok.name]; exact hG.deep n F.ok.mem
    have : deepN (moveTr p q T).L (splitL q) ≤ 16 - (u.nm ++ [sa]).length := by
      refine deepN_le (fun x hx t ht => ?_)
      obtain ⟨y, hy, h1, _⟩ := hsrc x hx
      rw [F.hq] at ht
      by_cases h3 : (u.nm ++ [sa]) <+: y.nm
      · obtain ⟨t', ht'⟩ := h3
        have hd := hG.deep y hy
        rw [← ht', renP_in, ht] at h1
        have := List.append_cancel_left h1
        rw [← ht', List.length_append, ← this] at hd
        omega
      · rw [renP_out h3] at h1
        exact absurd ⟨t, by rw [← h1, ht]⟩ (F.ok.below hpar hy)
    rw [F.hp]; omega
  have hlen : (moveTr p q T).L.length = T.L.length := by
    rw [hL, tickT_len, moveT, (sortT_perm _).length_eq, List.length_map]
  have hkl := hG.len
  have hkid : (kidsT (moveTr p q T).L (splitL p).dropLast).length ≤ 101 := Nat.le_trans (kids_le _ _) (by omega)
  rw [moveE, if_neg (by rw [F.eq]; simp), if_neg (by rw [F.ep]; simp), hxb]
  dsimp only
  rw [if_neg, if_neg (by rw [hga]; simp), if_neg, if_neg (by omega), if_neg]
  · rintro (⟨_, h⟩ | h)
    · omega
    · rw [hC] at h; omega
  · rw [abvE, F.hp, List.dropLast_concat, hxu]
    simp [hxu2]
  · rintro (h | ⟨_, h⟩)
    · rw [F.hq] at h; simp at h
    · rw [F.hp, F.hq] at h
      exact hnb (List.prefix_iff_eq_take.2 h)
/-- Behind a move there and back all is as it was, but for the folders' ticks. -/
theorem back_same (hT : TreeAt B w r T) (h0 : moveE p q T = 0) (hT1 : TreeAt B w1 r (moveTr p q T)) (h1 : moveE q p (moveTr p q T) = 0) {w2 : World} (hT2 : TreeAt B w2 r (moveTr q p (moveTr p q T))) :
    (moveTr q p (moveTr p q T)).L.length = T.L.length ∧ ∀ (i : Nat) e, T.L[i]? = some e → ∃ e2, (moveTr q p (moveTr p q T)).L[i]? = some e2 ∧ e2.nm = e.nm ∧ e2.ino = e.ino ∧ e2.at_ = e.at_ ∧ e2.data = e.data ∧ (e2.tick ≠ e.tick → e.at_.node = 2) := by
  obtain ⟨n, u, d, sa, sb, F⟩ := move_facts hT h0
  obtain ⟨n', u', d', sa', sb', F'⟩ := move_facts hT1 h1
  have hpar := hT.parT
  have ea : d'.nm ++ [sb'] = u.nm ++ [sa] := F'.hq.symm.trans F.hp
  have eb : u'.nm ++ [sa'] = d.nm ++ [sb] := F'.hp.symm.trans F.hq
  have hL : (moveTr p q T).L = tickT [u.p, d.p] ((T.clock + 1 : Nat) : Int) (moveT (u.nm ++ [sa]) (d.nm ++ [sb]) T.L) := by rw [F.tr]
  have hL2 : (moveTr q p (moveTr p q T)).L = tickT [u'.p, d'.p] (((moveTr p q T).clock + 1 : Nat) : Int) (moveT (d.nm ++ [sb]) (u.nm ++ [sa]) (moveTr p q T).L) := by rw [F'.tr, ea, eb]
  have hren : ∀ y ∈ T.L, renP (d.nm ++ [sb]) (u.nm ++ [sa]) (renP (u.nm ++ [sa]) (d.nm ++ [sb]) y.nm) = y.nm := by
    intro y hy
    by_cases h3 : (u.nm ++ [sa]) <+: y.nm
    · obtain ⟨t, ht⟩ := h3
      rw [← ht, renP_in, renP_in]
    · rw [renP_out h3, renP_out (F.ok.below hpar hy)]
  -- the two folders
  have hfold : ∀ x ∈ (moveTr p q T).L, (x.nm = u.nm → x.p = u.p) ∧ (x.nm = d.nm → x.p = d.p) := by
    intro x hx
    have hu3 : ¬ (u.nm ++ [sa]) <+: u.nm := fun h => by have := h.length_le; rw [List.length_append, List.length_singleton] at this; omega
    have hd3 : ¬ (u.nm ++ [sa]) <+: d.nm := F.ok.off0
    have key : ∀ y ∈ T.L, ¬ (u.nm ++ [sa]) <+: y.nm → x.nm = y.nm → x.p = y.p := by
      intro y hy h3 hxn
      obtain ⟨x', hx', e1, _, e2⟩ := mem_tick (qs := [u.p, d.p]) (c := ((T.clock + 1 : Nat) : Int)) (moveT_mem (a := u.nm ++ [sa]) (b := d.nm ++ [sb]).2 ⟨y, hy, rfl⟩)
      rw [← hL] at hx'
      have e1 : x'.nm = renP (u.nm ++ [sa]) (d.nm ++ [sb]) y.nm := e1
      rw [renP_out h3] at e1
      rw [srtT_inj hT1.srt hx hx' (hxn.trans e1.symm)]
      exact e2
    exact ⟨key u F.hu hu3, key d F.ok.dmem hd3⟩
  have hu'd : u'.p = d.p := (hfold u' F'.hu).2 (List.append_inj_left' eb rfl)
  have hd'u : d'.p = u.p := (hfold d' F'.ok.dmem).1 (List.append_inj_left' ea rfl)
  have hsrc : ∀ x ∈ (moveTr q p (moveTr p q T)).L, ∃ y ∈ T.L, x.nm = y.nm ∧ (x.tick ≠ y.tick → y.at_.node = 2) := by
    intro x hx
    rw [hL2] at hx
    obtain ⟨x1, hx1, a1, _, _, _, a2, a3⟩ := tick_mem hx
    obtain ⟨x2, hx2, rfl⟩ := moveT_mem.1 hx1
    rw [hL] at hx2
    obtain ⟨x3, hx3, b1, _, _, _, b2, b3⟩ := tick_mem hx2
    obtain ⟨y, hy, rfl⟩ := moveT_mem.1 hx3
    refine ⟨y, hy, ?_, fun hne => ?_⟩
    · have a1 : x.nm = renP (d.nm ++ [sb]) (u.nm ++ [sa]) x2.nm := a1
      have b1 : x2.nm = renP (u.nm ++ [sa]) (d.nm ++ [sb]) y.nm := b1
      rw [a1, b1, hren y hy]
    · have hyp : y.p ∈ [u.p, d.p] := by
        rcases a3 with a3 | a3
        · rcases b3 with b3 | b3
          · exact absurd (a3.trans b3) hne
          · exact b3
        · have a3 : x2.p ∈ [u'.p, d'.p] := a3
          have b2 : x2.p = y.p := b2
          rw [b2, hu'd, hd'u] at a3
          simp only [List.mem_cons, List.not_mem_nil, or_false] at a3 ⊢
          exact a3.symm
      simp only [List.mem_cons, List.not_mem_nil, or_false] at hyp
      rcases hyp with h | h
      · rw [hT.p_inj hy F.hu h]; exact F.hu2
      · rw [hT.p_inj hy F.ok.dmem h]; exact F.hd2
  have hperm : ((moveTr q p (moveTr p q T)).L.map strip).Perm (T.L.map strip) := by
    rw [hL2, strip_tick]
    refine (strip_move _ _ _).trans ?_
    rw [hL, strip_tick]
    refine ((strip_move _ _ _).map _).trans ?_
    rw [List.map_map, List.map_map]
    have : T.L.map ((renE (renP (d.nm ++ [sb]) (u.nm ++ [sa])) ∘ renE (renP (u.nm ++ [sa]) (d.nm ++ [sb]))) ∘ strip) = T.L.map strip := by
      refine List.map_congr_left (fun y hy => ?_)
      show ({ strip y with nm := renP _ _ (renP _ _ y.nm) } : TE) = strip y
      rw [hren y hy]; rfl
    rw [this]
  have heq : (moveTr q p (moveTr p q T)).L.map strip = T.L.map strip := srt_ext (strip_srt hT2.srt) (strip_srt hT.srt) (fun x => hperm.mem_iff)
  refine ⟨by have := congrArg List.length heq; rwa [List.length_map, List.length_map] at this, fun i e he => ?_⟩
  have h2 : ((moveTr q p (moveTr p q T)).L.map strip)[i]? = some (strip e) := by rw [heq, List.getElem?_map, he]; rfl
  rw [List.getElem?_map] at h2
  obtain ⟨e2, he2, hs⟩ := Option.map_eq_some_iff.1 h2
  have hn : e2.nm = e.nm := (show (strip e2).nm = (strip e).nm from congrArg TE.nm hs)
  refine ⟨e2, he2, hn, (show (strip e2).ino = (strip e).ino from congrArg TE.ino hs), (show (strip e2).at_ = (strip e).at_ from congrArg TE.at_ hs), (show (strip e2).data = (strip e).data from congrArg TE.data hs), fun hne => ?_⟩
  obtain ⟨y, hy, hyn, ht⟩ := hsrc e2 (List.mem_of_getElem? he2)
  have hye : y = e := srtT_inj hT.srt hy (List.mem_of_getElem? he) (hyn.symm.trans hn)
  rw [hye] at ht
  exact ht hne
end
end Go.Proofs.YthcjjekkjbidlaaDoor.Sr
/-
  The contracts of slices.Equal at extended attributes, of attrs.Same, of the statements' same and texts, where the two are equal.
-/
namespace Go.Proofs.YthcjjekkjbidlaaDoor.Sr
open Go.RowKit Go.Maps Go.WideMaps Go.Proofs.YthcjjekkjbidlaaDoor.Rf Go.Proofs.YthcjjekkjbidlaaDoor.Nm Go.Proofs.YthcjjekkjbidlaaDoor.St

set_option linter.unusedSimpArgs false in
set_option maxHeartbeats 8000000 in
set_option maxRecDepth 100000 in
theorem xeq_any (w : World) (xs : Xs) (v u : Value) (hv : XsAt w v xs) (hu : XsAt w u xs) :
    Calls Tryd.prog 74 #[v, u] w fun e w' => e = .returned (.bool true) ∧ Below w.heap.size w w' := by
  obtain ⟨va, vc, rfl, hxm, _, hxc⟩ := hv
  obtain ⟨ua, uc, rfl, _, _, hyc⟩ := hu
  have HXC := Lib.hid hxc; have HYC := Lib.hid hyc
  unfold maxLen at hxm
  clear hxc hyc
  go_enter Tryd.func74, Tryd.ntmps74
  go_wp2
  go_loopw [13] (fun v13 wr => ∃ i : Nat, i ≤ xs.length ∧ v13 = .int .i64 (i : Int) ∧ Hid (Below w.heap.size w wr)) (fun v13 _ => xs.length - (RowKit.intOf v13).toNat)
  case atStart => exact ⟨0, by omega, rfl, Lib.hid (Below.refl _ _)⟩
  case round =>
    obtain ⟨i, hi, rfl, HB⟩ := hrel
    by_cases hil : (i : Int) < (xs.length : Int)
    · have hi2 : i < xs.length := by omega
      obtain ⟨x, hx⟩ : ∃ x, xs[i]? = some x := ⟨_, List.getElem?_eq_getElem hi2⟩
      obtain ⟨b, o, rfl, hb, hcl⟩ := HXC.out (fun h => by rw [h] at hi2; cases hi2)
      obtain ⟨b2, o2, rfl, hb2, hcl2⟩ := HYC.out (fun h => by rw [h] at hi2; cases hi2)
      have KS : Hid (∀ w', Below w.heap.size w w' → w'.rangeAt b (o + i * 2) [.string ⟨x.1.toArray⟩, .string ⟨x.2.toArray⟩] ∧ w'.rangeAt b2 (o2 + i * 2) [.string ⟨x.1.toArray⟩, .string ⟨x.2.toArray⟩]) := Lib.hid (fun w' hw => by
        obtain ⟨c1, c2⟩ := hcl i x hx
        obtain ⟨d1, d2⟩ := hcl2 i x hx
        have e1 := (World.cell?_of_block (a := ⟨b, o + i * 2, none⟩) (hw.block b hb)).trans c1
        have e2 := (World.cell?_of_block (a := ⟨b, o + i * 2 + 1, none⟩) (hw.block b hb)).trans c2
        have f1 := (World.cell?_of_block (a := ⟨b2, o2 + i * 2, none⟩) (hw.block b2 hb2)).trans d1
        have f2 := (World.cell?_of_block (a := ⟨b2, o2 + i * 2 + 1, none⟩) (hw.block b2 hb2)).trans d2
        constructor <;> intro j z hz
        · match j, hz with
          | 0, hz => obtain rfl := Option.some.inj hz; exact e1
          | 1, hz => obtain rfl := Option.some.inj hz; exact e2
        · match j, hz with
          | 0, hz => obtain rfl := Option.some.inj hz; exact f1
          | 1, hz => obtain rfl := Option.some.inj hz; exact f2)
      have HI2 := Lib.hid (infoXa1 x)
      have hsth : Tryd.prog.stoodInHeld 131 = false := by kernel_rfl
      clear hcl hcl2 hx
      go_wp2
      refine wp_region_held_drew (S := (fun w' : World => w'.rangeAt b (o + i * 2) [.string ⟨x.1.toArray⟩, .string ⟨x.2.toArray⟩] ∧ w'.rangeAt b2 (o2 + i * 2) [.string ⟨x.1.toArray⟩, .string ⟨x.2.toArray⟩])) (by kernel_rfl) (KS.out _ HB.out.drew) (fun hHeld => ?_)
      refine wpAnyH_take (i := 0) (v := ?_) rfl (by kernel_rfl) (by kernel_rfl) (by kernel_rfl) (fun _ _ _ h => h) (Or.inl ⟨by rfl, ?ra0⟩) hHeld ?_
      case ra0 =>
        intro wS hSw
        obtain ⟨k0, k1⟩ := hSw
        go_simp
        try with_reducible rfl
      try simp only [Act.put, List.getElem_toArray, List.getElem_cons_zero, List.getElem_cons_succ, List.setIfInBounds_toArray, List.set_cons_zero, List.set_cons_succ]
      refine wpAnyH_take (i := 1) (v := ?_) rfl (by kernel_rfl) (by kernel_rfl) (by kernel_rfl) (fun _ _ _ h => h) (Or.inl ⟨by rfl, ?ra1⟩) hHeld ?_
      case ra1 =>
        intro wS hSw
        obtain ⟨k0, k1⟩ := hSw
        go_simp
        try with_reducible rfl
      try simp only [Act.put, List.getElem_toArray, List.getElem_cons_zero, List.getElem_cons_succ, List.setIfInBounds_toArray, List.set_cons_zero, List.set_cons_succ]
      refine wpAnyH_take (i := 2) (v := ?_) rfl (by kernel_rfl) (by kernel_rfl) (by kernel_rfl) (fun _ _ _ h => h) (Or.inl ⟨by rfl, ?ra2⟩) hHeld ?_
      case ra2 =>
        intro wS hSw
        obtain ⟨k0, k1⟩ := hSw
        go_simp
        try with_reducible rfl
      try simp only [Act.put, List.getElem_toArray, List.getElem_cons_zero, List.getElem_cons_succ, List.setIfInBounds_toArray, List.set_cons_zero, List.set_cons_succ]
      refine' wpAnyH_take (i := 3) (v := _) rfl (by kernel_rfl) (by kernel_rfl) (by kernel_rfl) (fun _ _ _ h => h) (yieldsIf_load_mid (by rfl) _ _ rfl b (o + i * 2) rfl [.string ⟨x.1.toArray⟩, .string ⟨x.2.toArray⟩] _ ?ra3S ?ra3u ?ra3d ?ra3i) hHeld ?ra3x
      case ra3S =>
        intro wS hSw
        obtain ⟨k0, k1⟩ := hSw
        exact k0
      case ra3u => exact Tryd.underlying131
      case ra3d => rfl
      case ra3i => exact HI2.out
      try simp only [Act.put, List.getElem_toArray, List.getElem_cons_zero, List.getElem_cons_succ, List.setIfInBounds_toArray, List.set_cons_zero, List.set_cons_succ]
      refine wpAnyH_take (i := 4) (v := ?_) rfl (by kernel_rfl) (by kernel_rfl) (by kernel_rfl) (fun _ _ _ h => h) (Or.inl ⟨by rfl, ?ra4⟩) hHeld ?_
      case ra4 =>
        intro wS hSw
        obtain ⟨k0, k1⟩ := hSw
        go_simp
        try with_reducible rfl
      try simp only [Act.put, List.getElem_toArray, List.getElem_cons_zero, List.getElem_cons_succ, List.setIfInBounds_toArray, List.set_cons_zero, List.set_cons_succ]
      refine wpAnyH_take (i := 5) (v := ?_) rfl (by kernel_rfl) (by kernel_rfl) (by kernel_rfl) (fun _ _ _ h => h) (Or.inl ⟨by rfl, ?ra5⟩) hHeld ?_
      case ra5 =>
        intro wS hSw
        obtain ⟨k0, k1⟩ := hSw
        go_simp
        try with_reducible rfl
      try simp only [Act.put, List.getElem_toArray, List.getElem_cons_zero, List.getElem_cons_succ, List.setIfInBounds_toArray, List.set_cons_zero, List.set_cons_succ]
      refine wpAnyH_take (i := 6) (v := ?_) rfl (by kernel_rfl) (by kernel_rfl) (by kernel_rfl) (fun _ _ _ h => h) (Or.inl ⟨by rfl, ?ra6⟩) hHeld ?_
      case ra6 =>
        intro wS hSw
        obtain ⟨k0, k1⟩ := hSw
        go_simp
        try with_reducible rfl
      try simp only [Act.put, List.getElem_toArray, List.getElem_cons_zero, List.getElem_cons_succ, List.setIfInBounds_toArray, List.set_cons_zero, List.set_cons_succ]
      refine' wpAnyH_take (i := 7) (v := _) rfl (by kernel_rfl) (by kernel_rfl) (by kernel_rfl) (fun _ _ _ h => h) (yieldsIf_load_mid (by rfl) _ _ rfl b2 (o2 + i * 2) rfl [.string ⟨x.1.toArray⟩, .string ⟨x.2.toArray⟩] _ ?ra7S ?ra7u ?ra7d ?ra7i) hHeld ?ra7x
      case ra7S =>
        intro wS hSw
        obtain ⟨k0, k1⟩ := hSw
        exact k1
      case ra7u => exact Tryd.underlying131
      case ra7d => rfl
      case ra7i => exact HI2.out
      try simp only [Act.put, List.getElem_toArray, List.getElem_cons_zero, List.getElem_cons_succ, List.setIfInBounds_toArray, List.set_cons_zero, List.set_cons_succ]
      refine wpAnyH_take (i := 8) (v := ?_) rfl (by kernel_rfl) (by kernel_rfl) (by kernel_rfl) (fun _ _ _ h => h) (Or.inl ⟨by rfl, ?ra8⟩) hHeld ?_
      case ra8 =>
        intro wS hSw
        obtain ⟨k0, k1⟩ := hSw
        go_simp
        try with_reducible rfl
      try simp only [Act.put, List.getElem_toArray, List.getElem_cons_zero, List.getElem_cons_succ, List.setIfInBounds_toArray, List.set_cons_zero, List.set_cons_succ]
      refine wpAnyH_done (by kernel_rfl) ?_ _
      clear hHeld
      try simp only [Act.put, List.getElem_toArray, List.getElem_cons_zero, List.getElem_cons_succ, List.setIfInBounds_toArray, List.set_cons_zero, List.set_cons_succ]
      go_wp2
      go_roundw
      case rel => exact ⟨i + 1, by omega, by go_num, Lib.hid HB.out.drew⟩
      case measure => simp [RowKit.intOf]; omega
    · obtain rfl : i = xs.length := by omega
      go_wp2
      go_ret
      exact ⟨rfl, HB.out⟩

set_option linter.unusedSimpArgs false in
set_option maxHeartbeats 8000000 in
set_option maxRecDepth 100000 in
theorem texts_any (w : World) (l : List (List UInt8)) (v u : Value) (hv : StrsAt w v l) (hu : StrsAt w u l) :
    Calls Tryd.prog 35 #[v, u] w fun e w' => e = .returned (.bool true) ∧ Below w.heap.size w w' := by
  obtain ⟨va, vc, rfl, hxm, _, hxc⟩ := hv
  obtain ⟨ua, uc, rfl, _, _, hyc⟩ := hu
  have HXC := Lib.hid hxc; have HYC := Lib.hid hyc
  unfold maxLen at hxm
  clear hxc hyc
  go_enter Tryd.func35, Tryd.ntmps35
  go_wp2
  go_loopw [5] (fun v5 wr => ∃ i : Nat, i ≤ l.length ∧ v5 = .int .i64 (i : Int) ∧ Hid (Below w.heap.size w wr)) (fun v5 _ => l.length - (RowKit.intOf v5).toNat)
  case atStart => exact ⟨0, by omega, rfl, Lib.hid (Below.refl _ _)⟩
  case round =>
    obtain ⟨i, hi, rfl, HB⟩ := hrel
    by_cases hil : (i : Int) < (l.length : Int)
    · have hi2 : i < l.length := by omega
      obtain ⟨s, hs⟩ : ∃ s, l[i]? = some s := ⟨_, List.getElem?_eq_getElem hi2⟩
      obtain ⟨b, o, rfl, hb, hcl⟩ := HXC.out (fun h => by rw [h] at hi2; cases hi2)
      obtain ⟨b2, o2, rfl, hb2, hcl2⟩ := HYC.out (fun h => by rw [h] at hi2; cases hi2)
      obtain ⟨x, hx⟩ : ∃ x : ByteArray, x = ⟨s.toArray⟩ := ⟨_, rfl⟩
      have KS : Hid (∀ w', Below w.heap.size w w' → w'.cell? ⟨b, o + i, none⟩ = some (.string x) ∧ w'.cell? ⟨b2, o2 + i, none⟩ = some (.string x)) := Lib.hid (fun w' hw => by
        rw [hx]
        exact ⟨(World.cell?_of_block (a := ⟨b, o + i, none⟩) (hw.block b hb)).trans (hcl i s hs), (World.cell?_of_block (a := ⟨b2, o2 + i, none⟩) (hw.block b2 hb2)).trans (hcl2 i s hs)⟩)
      clear hcl hcl2 hs hx
      go_wp2
      refine wp_region_held_drew (S := (fun w' : World => w'.cell? ⟨b, o + i, none⟩ = some (.string x) ∧ w'.cell? ⟨b2, o2 + i, none⟩ = some (.string x))) (by kernel_rfl) (KS.out _ HB.out.drew) (fun hHeld => ?_)
      refine wpAnyH_take (i := 0) (v := ?_) rfl (by kernel_rfl) (by kernel_rfl) (by kernel_rfl) (fun _ _ _ h => h) (Or.inl ⟨by rfl, ?rb0⟩) hHeld ?_
      case rb0 =>
        intro wS hSw
        obtain ⟨k0, k1⟩ := hSw
        go_simp
        try with_reducible rfl
      try simp only [Act.put, List.getElem_toArray, List.getElem_cons_zero, List.getElem_cons_succ, List.setIfInBounds_toArray, List.set_cons_zero, List.set_cons_succ]
      refine wpAnyH_take (i := 1) (v := ?_) rfl (by kernel_rfl) (by kernel_rfl) (by kernel_rfl) (fun _ _ _ h => h) (Or.inl ⟨by rfl, ?rb1⟩) hHeld ?_
      case rb1 =>
        intro wS hSw
        obtain ⟨k0, k1⟩ := hSw
        go_simp
        try with_reducible rfl
      try simp only [Act.put, List.getElem_toArray, List.getElem_cons_zero, List.getElem_cons_succ, List.setIfInBounds_toArray, List.set_cons_zero, List.set_cons_succ]
      refine wpAnyH_take (i := 2) (v := ?_) rfl (by kernel_rfl) (by kernel_rfl) (by kernel_rfl) (fun _ _ _ h => h) (Or.inl ⟨by rfl, ?rb2⟩) hHeld ?_
      case rb2 =>
        intro wS hSw
        obtain ⟨k0, k1⟩ := hSw
        go_simp
        try with_reducible rfl
      try simp only [Act.put, List.getElem_toArray, List.getElem_cons_zero, List.getElem_cons_succ, List.setIfInBounds_toArray, List.set_cons_zero, List.set_cons_succ]
      refine wpAnyH_take (i := 3) (v := ?_) rfl (by kernel_rfl) (by kernel_rfl) (by kernel_rfl) (fun _ _ _ h => h) (Or.inl ⟨by rfl, ?rb3⟩) hHeld ?_
      case rb3 =>
        intro wS hSw
        obtain ⟨k0, k1⟩ := hSw
        go_simp
        try with_reducible rfl
      try simp only [Act.put, List.getElem_toArray, List.getElem_cons_zero, List.getElem_cons_succ, List.setIfInBounds_toArray, List.set_cons_zero, List.set_cons_succ]
      refine wpAnyH_take (i := 4) (v := ?_) rfl (by kernel_rfl) (by kernel_rfl) (by kernel_rfl) (fun _ _ _ h => h) (Or.inl ⟨by rfl, ?rb4⟩) hHeld ?_
      case rb4 =>
        intro wS hSw
        obtain ⟨k0, k1⟩ := hSw
        go_simp
        try with_reducible rfl
      try simp only [Act.put, List.getElem_toArray, List.getElem_cons_zero, List.getElem_cons_succ, List.setIfInBounds_toArray, List.set_cons_zero, List.set_cons_succ]
      refine wpAnyH_take (i := 5) (v := ?_) rfl (by kernel_rfl) (by kernel_rfl) (by kernel_rfl) (fun _ _ _ h => h) (Or.inl ⟨by rfl, ?rb5⟩) hHeld ?_
      case rb5 =>
        intro wS hSw
        obtain ⟨k0, k1⟩ := hSw
        go_simp
        try with_reducible rfl
      try simp only [Act.put, List.getElem_toArray, List.getElem_cons_zero, List.getElem_cons_succ, List.setIfInBounds_toArray, List.set_cons_zero, List.set_cons_succ]
      refine wpAnyH_take (i := 6) (v := ?_) rfl (by kernel_rfl) (by kernel_rfl) (by kernel_rfl) (fun _ _ _ h => h) (Or.inl ⟨by rfl, ?rb6⟩) hHeld ?_
      case rb6 =>
        intro wS hSw
        obtain ⟨k0, k1⟩ := hSw
        go_simp
        try with_reducible rfl
      try simp only [Act.put, List.getElem_toArray, List.getElem_cons_zero, List.getElem_cons_succ, List.setIfInBounds_toArray, List.set_cons_zero, List.set_cons_succ]
      refine wpAnyH_take (i := 7) (v := ?_) rfl (by kernel_rfl) (by kernel_rfl) (by kernel_rfl) (fun _ _ _ h => h) (Or.inl ⟨by rfl, ?rb7⟩) hHeld ?_
      case rb7 =>
        intro wS hSw
        obtain ⟨k0, k1⟩ := hSw
        go_simp
        try with_reducible rfl
      try simp only [Act.put, List.getElem_toArray, List.getElem_cons_zero, List.getElem_cons_succ, List.setIfInBounds_toArray, List.set_cons_zero, List.set_cons_succ]
      refine wpAnyH_take (i := 8) (v := ?_) rfl (by kernel_rfl) (by kernel_rfl) (by kernel_rfl) (fun _ _ _ h => h) (Or.inl ⟨by rfl, ?rb8⟩) hHeld ?_
      case rb8 =>
        intro wS hSw
        obtain ⟨k0, k1⟩ := hSw
        go_simp
        try with_reducible rfl
      try simp only [Act.put, List.getElem_toArray, List.getElem_cons_zero, List.getElem_cons_succ, List.setIfInBounds_toArray, List.set_cons_zero, List.set_cons_succ]
      refine wpAnyH_done (by kernel_rfl) ?_ _
      clear hHeld
      try simp only [Act.put, List.getElem_toArray, List.getElem_cons_zero, List.getElem_cons_succ, List.setIfInBounds_toArray, List.set_cons_zero, List.set_cons_succ]
      go_wp2
      go_roundw
      case rel => exact ⟨i + 1, by omega, by go_num, Lib.hid HB.out.drew⟩
      case measure => simp [RowKit.intOf]; omega
    · obtain rfl : i = l.length := by omega
      go_wp2
      go_ret
      exact ⟨rfl, HB.out⟩
end Go.Proofs.YthcjjekkjbidlaaDoor.Sr
