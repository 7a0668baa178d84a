import Derived.Test.YthcjjekkjbidlaaDoorZPSrHonStep
set_option linter.unusedSimpArgs false
set_option linter.unusedVariables false
/-
  All that the law of StatixHonest carries from round to round.
-/
namespace Go.Proofs.YthcjjekkjbidlaaDoor.Sr
open Go.RowKit Go.Maps Go.WideMaps Go.Proofs.YthcjjekkjbidlaaDoor.Rf Go.Proofs.YthcjjekkjbidlaaDoor.Nm Go.Proofs.YthcjjekkjbidlaaDoor.St

structure HonSt (B : Nat) (w : World) (r : Nat) (T : Tr) (g b : Nat) (X : List SE) (db : Nat) (D : MV (List UInt8)) (kb : Nat) (K : MV (Nat × Int)) (k c : Nat) : Prop where
  st : LawSt B w r T g b X db D kb K
  good : Good k T
  rel : HonRel T X D K
  reads : T.reads ≤ c
  dl : D.length ≤ c
  kl : K.length ≤ c
  xl : X.length ≤ c
section
variable {B : Nat} {w w' : World} {r : Nat} {T : Tr} {g b : Nat} {X : List SE} {db : Nat} {D : MV (List UInt8)} {kb : Nat} {K : MV (Nat × Int)} {k c : Nat}
theorem HonSt.below (h : HonSt B w r T g b X db D kb K k c) (hb : Below w.heap.size w w') : HonSt B w' r T g b X db D kb K k c :=
  ⟨h.st.below hb, h.good, h.rel, h.reads, h.dl, h.kl, h.xl⟩
theorem HonSt.more (h : HonSt B w r T g b X db D kb K k c) {c' : Nat} (hc : c ≤ c') : HonSt B w r T g b X db D kb K k c' :=
  ⟨h.st, h.good, h.rel, Nat.le_trans h.reads hc, Nat.le_trans h.dl hc, Nat.le_trans h.kl hc, Nat.le_trans h.xl hc⟩
theorem HonSt.call (h : HonSt B w r T g b X db D kb K k c) {T' : Tr} (hc : CallT B w r T w' T') : HonSt B w' r T' g b X db D kb K (k + 1) c :=
  ⟨h.st.call hc, hc.ch.good h.st.tree h.good, h.rel.hist hc.ch.hist, by rw [hc.ch.reads]; exact h.reads, h.dl, h.kl, h.xl⟩
theorem HonSt.turnLow (h : HonSt B w r T g b X db D kb K k c) (hu : Turn [r, b, db, kb] w w') : Below B w w' :=
  hu.below (fun y hy => by
    simp only [List.mem_cons, List.not_mem_nil, or_false] at hy
    rcases hy with rfl | rfl | rfl | rfl
    · exact h.st.tree.base _ (by simp)
    · exact h.st.idx.baseb
    · exact h.st.base.1
    · exact h.st.base.2) h.st.size
theorem HonSt.callLow (h : HonSt B w r T g b X db D kb K k c) {T' : Tr} (hc : CallT B w r T w' T') : Below B w w' :=
  hc.turn.below (fun y hy => h.st.tree.base y (by
    rw [List.mem_cons] at hy ⊢
    exact hy.imp id (fun h => List.mem_append_left _ h))) h.st.size
theorem setX_zero {e : SE} {X : List SE} (h : (setX e X).1 = 0) : (setX e X).2 = insL e X := by
  rw [setX] at h ⊢
  split
  · next h1 => rw [if_pos h1] at h; exact absurd h h1
  · next h1 =>
    rw [if_neg h1] at h
    split
    · next h2 => rw [if_pos h2] at h; cases h
    · rfl
theorem HonSt.enter (h : HonSt B w r T g b X db D kb K k c) {p : List UInt8} {e : Ending} (hp : EntPost B w r T g b X db D kb K p e w') :
    e = .returned (.tuple #[]) ∧ ∃ T' X' D' K', T'.L = T.L ∧ T'.clock = T.clock ∧ T'.most = T.most ∧ HonSt B w' r T' g b X' db D' kb K' k (c + 1) ∧ Turn [r, b, db, kb] w w' ∧ (readE p T.L = 0 → (setX (entN p T.L) X).1 = 0 → X' = insL (entN p T.L) X) := by
  obtain ⟨he, T', hL, hc, hm, hr, hu, hh⟩ := hp
  have gT' : Good k T' := ⟨by rw [hL]; exact h.good.deep, by rw [hL]; exact h.good.names, by rw [hL]; exact h.good.att, by rw [hL]; exact h.good.data, by rw [hL, hm]; exact h.good.ino, by rw [hL]; exact h.good.inos, by rw [hL, hc]; exact h.good.tick, by rw [hc]; exact h.good.clock, by rw [hm]; exact h.good.most, by rw [hL]; exact h.good.len⟩
  have rT' : ∀ {X D K}, HonRel T X D K → HonRel T' X D K := fun hr => ⟨hr.srt, hr.keyD, fun e he => by
    rw [hL, hc, hm]; exact hr.ent e he⟩
  refine ⟨he, ?_⟩
  rcases hh with ⟨h1, h2, h3⟩ | ⟨h1, h3⟩
  · obtain ⟨n, hn, hf, _, hn1, hst, hd⟩ := read_find h1
    have hnm := (getT_nm hn).1
    have e1 : (entN p T.L).node = 1 := by show (statN p T.L).node = 1; rw [hst]; exact hn1
    have e2 : (entN p T.L).size = (n.data.length : Int) := by show (statN p T.L).size = _; rw [hst]; show sizeT n T.L = _; rw [sizeT, if_pos hn1]
    have e3 : (entN p T.L).ino = n.ino := by show (statN p T.L).ino = _; rw [hst]; rfl
    have e4 : (entN p T.L).tick = n.tick := by show (statN p T.L).tick = _; rw [hst]; rfl
    have hrel := h.rel.enter h.good hnm hn1 e1 e2 e3 e4
    have hset := setX_zero h2
    have e5 : ((statN p T.L).ino, (statN p T.L).tick) = (n.ino, n.tick) := by rw [hst]; rfl
    refine ⟨T', insL (entN p T.L) X, putM D p n.data, putM K p (n.ino, n.tick), hL, hc, hm, ⟨?_, gT', rT' hrel, Nat.le_trans hr (Nat.succ_le_succ h.reads), Nat.le_trans (putM_len _ _ _) (Nat.succ_le_succ h.dl), Nat.le_trans (putM_len _ _ _) (Nat.succ_le_succ h.kl), Nat.le_trans (insL_length_le _ _) (Nat.succ_le_succ h.xl)⟩, hu, fun _ _ => rfl⟩
    rw [hset, hd, e5] at h3
    exact h3
  · exact ⟨T', X, D, K, hL, hc, hm, ⟨h3, gT', rT' h.rel, Nat.le_trans hr (Nat.succ_le_succ h.reads), Nat.le_succ_of_le h.dl, Nat.le_succ_of_le h.kl, Nat.le_succ_of_le h.xl⟩, hu, fun a1 a2 => absurd ⟨a1, a2⟩ h1⟩
end
/-- Where the law begins. -/
theorem HonSt.start {w w1 w2 w3 : World} {r p m g b : Nat} (h1 : Below w.heap.size w w1) (h2 : TreeAt w1.heap.size w2 r (newT p m)) (h3 : IndexAt w2.heap.size w3 g b []) (hb2 : Below w1.heap.size w1 w2) (hb3 : Below w2.heap.size w2 w3) :
    HonSt w.heap.size ((w3.alloc (.map #[] 0)).alloc (.map #[] 0)) r (newT p m) g b [] w3.heap.size [] (w3.heap.size + 1) [] 0 0 ∧ Below w.heap.size w ((w3.alloc (.map #[] 0)).alloc (.map #[] 0)) := by
  have hs1 := h1.size; have hs2 := hb2.size; have hs3 := hb3.size
  have hA : Below w3.heap.size w3 ((w3.alloc (.map #[] 0)).alloc (.map #[] 0)) := ((Below.refl _ _).alloc (Nat.le_refl _) _).alloc (by rw [one_size]; omega) _
  have mD : (w3.alloc (.map #[] 0)).ownsMap Tryd.prog 9 Rv w3.heap.size 1000000 (toD strD ([] : MV (List UInt8))) := map_tight (enc := strD) (m := ([] : MV (List UInt8))) (World.ownsMap_made w3 Tryd.prog 9 Rv) (by decide)
  have mK : ((w3.alloc (.map #[] 0)).alloc (.map #[] 0)).ownsMap Tryd.prog 9 Rv (w3.heap.size + 1) 1000000 (toD nodK ([] : MV (Nat × Int))) := by
    have := map_tight (enc := nodK) (m := ([] : MV (Nat × Int))) (n' := 1000000) (World.ownsMap_made (w3.alloc (.map #[] 0)) Tryd.prog 9 Rv) (by decide)
    rw [one_size] at this
    exact this
  have hgl := h3.lt_g; have hbl := h3.lt_b; have hbg := h3.baseg; have hbb := h3.baseb
  refine ⟨⟨⟨((h2.below hb3).below hA).mono hs1, (h3.below hA).mono (by omega), mD.alloc _, mK, fun x hx => ?_, ⟨by omega, by omega, by omega, by omega, by omega⟩, ⟨by omega, by omega⟩⟩, good_new p m, .nil _, Nat.le_refl _, Nat.le_refl _, Nat.le_refl _, Nat.le_refl _⟩, ?_⟩
  · have := h2.lt x hx
    omega
  · exact ((h1.trans (hb2.mono hs1)).trans (hb3.mono (by omega))).trans (hA.mono (by omega))
end Go.Proofs.YthcjjekkjbidlaaDoor.Sr
