import Derived.Test.YthcjjekkjbidlaaDoorZPSrShape
import Derived.Test.YthcjjekkjbidlaaDoorZPSrValue
import Derived.Test.YthcjjekkjbidlaaDoorZPStRefAt
import Derived.Test.YthcjjekkjbidlaaDoorZPStDrop
import Derived.Test.YthcjjekkjbidlaaDoorZPSrNew
set_option linter.unusedSimpArgs false
set_option linter.unusedVariables false
/-
  What every call on a tree keeps: bounds; and what it makes of the nodes.
-/
namespace Go.Proofs.YthcjjekkjbidlaaDoor.Sr
open Go.RowKit Go.Maps Go.WideMaps Go.Proofs.YthcjjekkjbidlaaDoor.Rf Go.Proofs.YthcjjekkjbidlaaDoor.Nm Go.Proofs.YthcjjekkjbidlaaDoor.St

/-- The bounds of a tree behind k calls. -/
structure Good (k : Nat) (T : Tr) : Prop where
  deep : ∀ e ∈ T.L, e.nm.length ≤ 16
  names : ∀ e ∈ T.L, ∀ s ∈ e.nm, chk s = true
  att : ∀ e ∈ T.L, chkA e.at_ = true
  data : ∀ e ∈ T.L, e.data.length ≤ 1048576
  ino : ∀ e ∈ T.L, 1 ≤ e.ino ∧ e.ino ≤ T.most
  inos : T.L.Pairwise fun a b => a.ino ≠ b.ino
  tick : ∀ e ∈ T.L, 0 ≤ e.tick ∧ e.tick ≤ (T.clock : Int)
  clock : T.clock ≤ 1099511627776
  most : T.most ≤ k + 1
  len : T.L.length ≤ k + 1
theorem kids_le (L : List TE) (n : PN) : (kidsT L n).length ≤ L.length := List.length_filterMap_le _ _
theorem good_new (p m : Nat) : Good 0 (newT p m) := by
  refine ⟨?_, ?_, ?_, ?_, ?_, List.pairwise_singleton _ _, ?_, by show 0 ≤ _; omega, Nat.le_refl _, Nat.le_refl _⟩ <;> (intro e he; obtain rfl := List.mem_singleton.1 he)
  · exact Nat.zero_le _
  · intro s hs; cases hs
  · show chkA ⟨2, 493, 0, 0, 0, [], []⟩ = true; decide +kernel
  · exact Nat.zero_le _
  · exact ⟨Nat.le_refl _, Nat.le_refl _⟩
  · exact ⟨Int.le_refl _, Int.le_refl _⟩
theorem Good.mono {k k' : Nat} {T : Tr} (h : Good k T) (hk : k ≤ k') : Good k' T :=
  ⟨h.deep, h.names, h.att, h.data, h.ino, h.inos, h.tick, h.clock, by have := h.most; omega, by have := h.len; omega⟩

/-! ### what a call makes of a tree -/
inductive ChT : Tr → Tr → Prop
  | same (T : Tr) : ChT T T
  | add {T : Tr} (n u : TE) (hu : u ∈ T.L) (hun : n.nm ≠ [] ∧ u.nm = n.nm.dropLast) (hno : getT n.nm T.L = none) (hi : n.ino = T.most + 1) (ht : n.tick = 0) (hc : T.clock < 1099511627776) (hd : n.data.length ≤ 1048576) (ha : chkA n.at_ = true) (hnm : n.nm.length ≤ 16 ∧ ∀ s ∈ n.nm, chk s = true) :
      ChT T { T with clock := T.clock + 1, most := T.most + 1, L := tickT [n.p, u.p] ((T.clock + 1 : Nat) : Int) (insT n T.L) }
  | upd {T : Tr} (n n' : TE) (hn : n ∈ T.L) (hs : n'.nm = n.nm ∧ n'.ino = n.ino ∧ n'.p = n.p ∧ n'.m = n.m ∧ n'.tick = n.tick ∧ n'.at_.node = n.at_.node) (hc : T.clock < 1099511627776) (hd : n'.data.length ≤ 1048576) (ha : chkA n'.at_ = true) :
      ChT T { T with clock := T.clock + 1, L := tickT [n.p] ((T.clock + 1 : Nat) : Int) (updT n' T.L) }
  | del {T : Tr} (n u : TE) (hn : n ∈ T.L) (hne : n.nm ≠ []) (hu : u ∈ T.L) (hun : u.nm = n.nm.dropLast) (hc : T.clock < 1099511627776) :
      ChT T { T with clock := T.clock + 1, L := tickT [u.p] ((T.clock + 1 : Nat) : Int) (dropT n.nm T.L) }
  | move {T : Tr} (a0 b0 : PN) (sa sb : List UInt8) (n u d : TE) (k : MoveOk a0 b0 sa sb T.L n d) (hu : u ∈ T.L) (hun : u.nm = a0) (hc : T.clock < 1099511627776) (hb : (b0 ++ [sb]).length + deepN T.L (a0 ++ [sa]) ≤ 16) (hnm : ∀ s ∈ b0 ++ [sb], chk s = true) :
      ChT T { T with clock := T.clock + 1, L := tickT [u.p, d.p] ((T.clock + 1 : Nat) : Int) (moveT (a0 ++ [sa]) (b0 ++ [sb]) T.L) }
theorem tickT_mem {qs : List Nat} {c : Int} : ∀ {L : List TE} {x' : TE}, x' ∈ tickT qs c L → ∃ x ∈ L, x' = x ∨ x' = { x with tick := c } := by
  induction qs with
  | nil => intro L x' h; exact ⟨x', h, .inl rfl⟩
  | cons q r ih =>
    intro L x' h
    obtain ⟨y, hy, h2⟩ := ih (L := tick1 q c L) h
    obtain ⟨x, hx, rfl⟩ := List.mem_map.1 hy
    refine ⟨x, hx, ?_⟩
    by_cases hq : x.p = q
    · rw [if_pos hq] at h2; exact .inr (by rcases h2 with h2 | h2 <;> rw [h2])
    · rw [if_neg hq] at h2; exact h2
theorem tickT_len (qs : List Nat) (c : Int) : ∀ L : List TE, (tickT qs c L).length = L.length := by
  induction qs with
  | nil => intro L; rfl
  | cons q r ih => intro L; show (tickT r c (tick1 q c L)).length = _; rw [ih]; exact List.length_map _
theorem tickT_ino (qs : List Nat) (c : Int) : ∀ L : List TE, (tickT qs c L).map TE.ino = L.map TE.ino := by
  induction qs with
  | nil => intro L; rfl
  | cons q r ih =>
    intro L
    show (tickT r c (tick1 q c L)).map TE.ino = _
    rw [ih, tick1, List.map_map]
    refine List.map_congr_left (fun x _ => ?_)
    show TE.ino (if x.p = q then _ else x) = x.ino
    split <;> rfl
theorem inos_map {L : List TE} : (L.Pairwise fun a b => a.ino ≠ b.ino) ↔ (L.map TE.ino).Nodup := by rw [List.Nodup, List.pairwise_map]
/-- What a node was before: the same, but for its path and its tick; or it has the newest tick. -/
structure Hist (T T' : Tr) : Prop where
  clock : T.clock ≤ T'.clock
  most : T.most ≤ T'.most
  node : ∀ x' ∈ T'.L, (∃ x ∈ T.L, x'.ino = x.ino ∧ x'.data = x.data ∧ x'.at_ = x.at_ ∧ x'.tick = x.tick) ∨ (x'.tick = ((T.clock + 1 : Nat) : Int) ∧ T'.clock = T.clock + 1)
theorem Hist.refl (T : Tr) : Hist T T := ⟨Nat.le_refl _, Nat.le_refl _, fun x hx => .inl ⟨x, hx, rfl, rfl, rfl, rfl⟩⟩
theorem good_tick {k : Nat} {T : Tr} {L : List TE} {m : Nat} {qs : List Nat} (hc : T.clock < 1099511627776) (h : Good k { T with clock := T.clock + 1, most := m, L := L }) : Good k { T with clock := T.clock + 1, most := m, L := tickT qs ((T.clock + 1 : Nat) : Int) L } := by
  have key : ∀ {x' : TE}, x' ∈ tickT qs ((T.clock + 1 : Nat) : Int) L → ∃ x ∈ L, x'.nm = x.nm ∧ x'.at_ = x.at_ ∧ x'.data = x.data ∧ x'.ino = x.ino ∧ (x'.tick = x.tick ∨ x'.tick = ((T.clock + 1 : Nat) : Int)) := by
    intro x' hx'
    obtain ⟨x, hx, rfl | rfl⟩ := tickT_mem hx'
    · exact ⟨_, hx, rfl, rfl, rfl, rfl, .inl rfl⟩
    · exact ⟨_, hx, rfl, rfl, rfl, rfl, .inr rfl⟩
  refine ⟨fun e he => ?_, fun e he => ?_, fun e he => ?_, fun e he => ?_, fun e he => ?_, ?_, fun e he => ?_, h.clock, h.most, ?_⟩
  · obtain ⟨x, hx, h1, _⟩ := key he; rw [h1]; exact h.deep x hx
  · obtain ⟨x, hx, h1, _⟩ := key he; rw [h1]; exact h.names x hx
  · obtain ⟨x, hx, _, h1, _⟩ := key he; rw [h1]; exact h.att x hx
  · obtain ⟨x, hx, _, _, h1, _⟩ := key he; rw [h1]; exact h.data x hx
  · obtain ⟨x, hx, _, _, _, h1, _⟩ := key he; rw [h1]; exact h.ino x hx
  · rw [inos_map]; show ((tickT qs _ L).map TE.ino).Nodup; rw [tickT_ino]; exact inos_map.1 h.inos
  · obtain ⟨x, hx, _, _, _, _, h1 | h1⟩ := key he <;> rw [h1]
    · exact h.tick x hx
    · exact ⟨by omega, Int.le_refl _⟩
  · show (tickT qs _ L).length ≤ _; rw [tickT_len]; exact h.len
theorem ChT.good {B : Nat} {w : World} {r : Nat} {T T' : Tr} (hT : TreeAt B w r T) (h : ChT T T') {k : Nat} (g : Good k T) : Good (k + 1) T' := by
  cases h with
  | same => exact g.mono (Nat.le_succ _)
  | add n u hu hun hno hi ht hc hd ha hnm =>
    refine good_tick hc ⟨fun e he => ?_, fun e he => ?_, fun e he => ?_, fun e he => ?_, fun e he => ?_, ?_, fun e he => ?_, by show T.clock + 1 ≤ _; omega, by show T.most + 1 ≤ _; have := g.most; omega, ?_⟩
    · rcases mem_insT.1 he with rfl | he
      · exact hnm.1
      · exact g.deep e he
    · rcases mem_insT.1 he with rfl | he
      · exact hnm.2
      · exact g.names e he
    · rcases mem_insT.1 he with rfl | he
      · exact ha
      · exact g.att e he
    · rcases mem_insT.1 he with rfl | he
      · exact hd
      · exact g.data e he
    · rcases mem_insT.1 he with rfl | he
      · show _ ∧ _ ≤ T.most + 1; omega
      · have := g.ino e he; show _ ∧ _ ≤ T.most + 1; omega
    · show (insT n T.L).Pairwise _
      rw [inos_map, ((insT_perm n T.L).map TE.ino).nodup_iff, List.map_cons, List.nodup_cons]
      refine ⟨fun hm => ?_, inos_map.1 g.inos⟩
      obtain ⟨x, hx, h1⟩ := List.mem_map.1 hm
      have := g.ino x hx; omega
    · rcases mem_insT.1 he with rfl | he
      · rw [ht]; exact ⟨Int.le_refl _, by show (0 : Int) ≤ ((T.clock + 1 : Nat) : Int); omega⟩
      · have := g.tick e he; exact ⟨this.1, by show e.tick ≤ ((T.clock + 1 : Nat) : Int); omega⟩
    · show (insT n T.L).length ≤ _
      rw [(insT_perm n T.L).length_eq, List.length_cons]; have := g.len; omega
  | upd n n' hn hs hc hd ha =>
    have key : ∀ {x' : TE}, x' ∈ updT n' T.L → x' = n' ∨ x' ∈ T.L := by
      intro x' hx'
      obtain ⟨x, hx, rfl⟩ := List.mem_map.1 hx'
      split
      · exact .inl rfl
      · exact .inr hx
    refine good_tick hc ⟨fun e he => ?_, fun e he => ?_, fun e he => ?_, fun e he => ?_, fun e he => ?_, ?_, fun e he => ?_, by show T.clock + 1 ≤ _; omega, by show T.most ≤ _; have := g.most; omega, ?_⟩
    · rcases key he with rfl | he
      · rw [hs.1]; exact g.deep n hn
      · exact g.deep e he
    · rcases key he with rfl | he
      · rw [hs.1]; exact g.names n hn
      · exact g.names e he
    · rcases key he with rfl | he
      · exact ha
      · exact g.att e he
    · rcases key he with rfl | he
      · exact hd
      · exact g.data e he
    · rcases key he with rfl | he
      · rw [hs.2.1]; exact g.ino n hn
      · exact g.ino e he
    · show (updT n' T.L).Pairwise _
      have : (updT n' T.L).map TE.ino = T.L.map TE.ino := by
        rw [updT, List.map_map]
        refine List.map_congr_left (fun x hx => ?_)
        show TE.ino (if x.p = n'.p then n' else x) = x.ino
        split
        · next hp => rw [hs.2.1, hT.p_inj hx hn (hp.trans hs.2.2.1)]
        · rfl
      rw [inos_map, this]; exact inos_map.1 g.inos
    · rcases key he with rfl | he
      · rw [hs.2.2.2.2.1]; have := g.tick n hn; exact ⟨this.1, by show n.tick ≤ ((T.clock + 1 : Nat) : Int); omega⟩
      · have := g.tick e he; exact ⟨this.1, by show e.tick ≤ ((T.clock + 1 : Nat) : Int); omega⟩
    · show (updT n' T.L).length ≤ _
      rw [updT, List.length_map]; have := g.len; omega
  | del n u hn hne hu hun hc =>
    have key : ∀ {x' : TE}, x' ∈ dropT n.nm T.L → x' ∈ T.L := fun h => (dropT_mem.1 h).1
    refine good_tick hc ⟨fun e he => g.deep e (key he), fun e he => g.names e (key he), fun e he => g.att e (key he), fun e he => g.data e (key he), fun e he => g.ino e (key he), g.inos.sublist List.filter_sublist, fun e he => ?_, by show T.clock + 1 ≤ _; omega, by show T.most ≤ _; have := g.most; omega, ?_⟩
    · have := g.tick e (key he); exact ⟨this.1, by show e.tick ≤ ((T.clock + 1 : Nat) : Int); omega⟩
    · have h1 := g.len
      have h2 : (dropT n.nm T.L).length ≤ T.L.length := List.length_filter_le _ _
      show (dropT n.nm T.L).length ≤ _
      omega
  | move a0 b0 sa sb n u d mk hu hun hc hb hnm =>
    have key : ∀ {x' : TE}, x' ∈ moveT (a0 ++ [sa]) (b0 ++ [sb]) T.L → ∃ x ∈ T.L, x' = renE (renP (a0 ++ [sa]) (b0 ++ [sb])) x := by
      intro x' hx'
      obtain ⟨x, hx, rfl⟩ := moveT_mem.1 hx'
      exact ⟨x, hx, rfl⟩
    refine good_tick hc ⟨fun e he => ?_, fun e he => ?_, fun e he => ?_, fun e he => ?_, fun e he => ?_, ?_, fun e he => ?_, by show T.clock + 1 ≤ _; omega, by show T.most ≤ _; have := g.most; omega, ?_⟩
    · obtain ⟨x, hx, rfl⟩ := key he
      show (renP _ _ x.nm).length ≤ 16
      by_cases h3 : (a0 ++ [sa]) <+: x.nm
      · obtain ⟨t, ht⟩ := h3
        rw [← ht, renP_in, List.length_append]
        have := le_deepN hx ht.symm
        omega
      · rw [renP_out h3]; exact g.deep x hx
    · obtain ⟨x, hx, rfl⟩ := key he
      show ∀ s ∈ renP _ _ x.nm, _
      by_cases h3 : (a0 ++ [sa]) <+: x.nm
      · obtain ⟨t, ht⟩ := h3
        rw [← ht, renP_in]
        intro s hs
        rcases List.mem_append.1 hs with hs | hs
        · exact hnm s hs
        · exact g.names x hx s (by rw [← ht]; exact List.mem_append_right _ hs)
      · rw [renP_out h3]; exact g.names x hx
    · obtain ⟨x, hx, rfl⟩ := key he; exact g.att x hx
    · obtain ⟨x, hx, rfl⟩ := key he; exact g.data x hx
    · obtain ⟨x, hx, rfl⟩ := key he; exact g.ino x hx
    · show (moveT (a0 ++ [sa]) (b0 ++ [sb]) T.L).Pairwise _
      rw [inos_map, moveT, ((sortT_perm _).map TE.ino).nodup_iff, List.map_map]
      exact inos_map.1 g.inos
    · obtain ⟨x, hx, rfl⟩ := key he
      have := g.tick x hx; exact ⟨this.1, by show x.tick ≤ ((T.clock + 1 : Nat) : Int); omega⟩
    · show (moveT (a0 ++ [sa]) (b0 ++ [sb]) T.L).length ≤ _
      rw [moveT, (sortT_perm _).length_eq, List.length_map]; have := g.len; omega

/-! ### what a call leaves in memory -/
structure CallT (B : Nat) (w : World) (r : Nat) (T : Tr) (w' : World) (T' : Tr) : Prop where
  tree : TreeAt B w' r T'
  turn : Turn (r :: ownL T.L) w w'
  own : ∀ b ∈ ownL T'.L ++ xobL T'.L, b ∈ ownL T.L ++ xobL T.L ∨ w.heap.size ≤ b
  ch : ChT T T'
theorem CallT.same {B : Nat} {w w' : World} {r : Nat} {T : Tr} (h : TreeAt B w r T) (hb : Below w.heap.size w w') : CallT B w r T w' T :=
  ⟨h.below hb, Turn.of_below hb, fun _ h => .inl h, .same T⟩
end Go.Proofs.YthcjjekkjbidlaaDoor.Sr
