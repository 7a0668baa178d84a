import Derived.Test.YthcjjekkjbidlaaDoorZPSrHonStep
import Derived.Test.YthcjjekkjbidlaaDoorZPSrChanged
import Derived.Test.YthcjjekkjbidlaaDoorZPSrNew
set_option linter.unusedSimpArgs false
set_option linter.unusedVariables false
/-
  All that the law of StatixHonest carries from round to round.
-/
namespace Go.Proofs.YthcjjekkjbidlaaDoor.Sr
open Go.RowKit Go.Maps Go.WideMaps Go.Proofs.YthcjjekkjbidlaaDoor.Rf Go.Proofs.YthcjjekkjbidlaaDoor.Nm Go.Proofs.YthcjjekkjbidlaaDoor.St

structure HonSt (B : Nat) (w : World) (r : Nat) (T : Tr) (g b : Nat) (X : List SE) (db : Nat) (D : MV (List UInt8)) (kb : Nat) (K : MV (Nat × Int)) (k c : Nat) : Prop where
  st : LawSt B w r T g b X db D kb K
  good : Good k T
  rel : HonRel T X D K
  reads : T.reads ≤ c
  dl : D.length ≤ c
  kl : K.length ≤ c
  xl : X.length ≤ c
section
variable {B : Nat} {w w' : World} {r : Nat} {T : Tr} {g b : Nat} {X : List SE} {db : Nat} {D : MV (List UInt8)} {kb : Nat} {K : MV (Nat × Int)} {k c : Nat}
theorem HonSt.below (h : HonSt B w r T g b X db D kb K k c) (hb : Below w.heap.size w w') : HonSt B w' r T g b X db D kb K k c :=
  ⟨h.st.below hb, h.good, h.rel, h.reads, h.dl, h.kl, h.xl⟩
theorem HonSt.more (h : HonSt B w r T g b X db D kb K k c) {c' : Nat} (hc : c ≤ c') : HonSt B w r T g b X db D kb K k c' :=
  ⟨h.st, h.good, h.rel, Nat.le_trans h.reads hc, Nat.le_trans h.dl hc, Nat.le_trans h.kl hc, Nat.le_trans h.xl hc⟩
theorem HonSt.call (h : HonSt B w r T g b X db D kb K k c) {T' : Tr} (hc : CallT B w r T w' T') : HonSt B w' r T' g b X db D kb K (k + 1) c :=
  ⟨h.st.call hc, hc.ch.good h.st.tree h.good, h.rel.hist hc.ch.hist, by rw [hc.ch.reads]; exact h.reads, h.dl, h.kl, h.xl⟩
theorem HonSt.callLow (h : HonSt B w r T g b X db D kb K k c) {T' : Tr} (hc : CallT B w r T w' T') : Below B w w' :=
  hc.turn.below (fun y hy => h.st.tree.base y (by
    rw [List.mem_cons] at hy ⊢
    exact hy.imp id (fun h => List.mem_append_left _ h))) h.st.size
theorem setX_zero {e : SE} {X : List SE} (h : (setX e X).1 = 0) : (setX e X).2 = insL e X := by
  rw [setX] at h ⊢
  split
  · next h1 => rw [if_pos h1] at h; exact absurd h h1
  · next h1 =>
    rw [if_neg h1] at h
    split
    · next h2 => rw [if_pos h2] at h; cases h
    · rfl
theorem HonSt.enter (h : HonSt B w r T g b X db D kb K k c) {p : List UInt8} {e : Ending} (hp : EntPost B w r T g b X db D kb K p e w') :
    e = .returned (.tuple #[]) ∧ ∃ T' X' D' K', T'.L = T.L ∧ T'.clock = T.clock ∧ T'.most = T.most ∧ HonSt B w' r T' g b X' db D' kb K' k (c + 1) ∧ Turn [r, b, db, kb] w w' ∧ (readE p T.L = 0 → (setX (entN p T.L) X).1 = 0 → X' = insL (entN p T.L) X) := by
  obtain ⟨he, T', hL, hc, hm, hr, hu, hh⟩ := hp
  have gT' : Good k T' := ⟨by rw [hL]; exact h.good.deep, by rw [hL]; exact h.good.names, by rw [hL]; exact h.good.att, by rw [hL]; exact h.good.data, by rw [hL, hm]; exact h.good.ino, by rw [hL]; exact h.good.inos, by rw [hL, hc]; exact h.good.tick, by rw [hc]; exact h.good.clock, by rw [hm]; exact h.good.most, by rw [hL]; exact h.good.len⟩
  have rT' : ∀ {X D K}, HonRel T X D K → HonRel T' X D K := fun hr => ⟨hr.srt, hr.keyD, fun e he => by
    rw [hL, hc, hm]; exact hr.ent e he⟩
  refine ⟨he, ?_⟩
  rcases hh with ⟨h1, h2, h3⟩ | ⟨h1, h3⟩
  · obtain ⟨n, hn, hf, _, hn1, hst, hd⟩ := read_find h1
    have hnm := (getT_nm hn).1
    have e1 : (entN p T.L).node = 1 := by show (statN p T.L).node = 1; rw [hst]; exact hn1
    have e2 : (entN p T.L).size = (n.data.length : Int) := by show (statN p T.L).size = _; rw [hst]; show sizeT n T.L = _; rw [sizeT, if_pos hn1]
    have e3 : (entN p T.L).ino = n.ino := by show (statN p T.L).ino = _; rw [hst]; rfl
    have e4 : (entN p T.L).tick = n.tick := by show (statN p T.L).tick = _; rw [hst]; rfl
    have hrel := h.rel.enter h.good hnm hn1 e1 e2 e3 e4
    have hset := setX_zero h2
    have e5 : ((statN p T.L).ino, (statN p T.L).tick) = (n.ino, n.tick) := by rw [hst]; rfl
    refine ⟨T', insL (entN p T.L) X, putM D p n.data, putM K p (n.ino, n.tick), hL, hc, hm, ⟨?_, gT', rT' hrel, Nat.le_trans hr (Nat.succ_le_succ h.reads), Nat.le_trans (putM_len _ _ _) (Nat.succ_le_succ h.dl), Nat.le_trans (putM_len _ _ _) (Nat.succ_le_succ h.kl), Nat.le_trans (insL_length_le _ _) (Nat.succ_le_succ h.xl)⟩, hu, fun _ _ => rfl⟩
    rw [hset, hd, e5] at h3
    exact h3
  · exact ⟨T', X, D, K, hL, hc, hm, ⟨h3, gT', rT' h.rel, Nat.le_trans hr (Nat.succ_le_succ h.reads), Nat.le_succ_of_le h.dl, Nat.le_succ_of_le h.kl, Nat.le_succ_of_le h.xl⟩, hu, fun a1 a2 => absurd ⟨a1, a2⟩ h1⟩
end
/-- Where the law begins. -/
theorem HonSt.start {w w1 w2 w3 : World} {r p m g b : Nat} (h1 : Below w.heap.size w w1) (h2 : TreeAt w1.heap.size w2 r (newT p m)) (h3 : IndexAt w2.heap.size w3 g b []) (hb2 : Below w1.heap.size w1 w2) (hb3 : Below w2.heap.size w2 w3) :
    HonSt w.heap.size ((w3.alloc (.map #[] 0)).alloc (.map #[] 0)) r (newT p m) g b [] w3.heap.size [] (w3.heap.size + 1) [] 0 0 ∧ Below w.heap.size w ((w3.alloc (.map #[] 0)).alloc (.map #[] 0)) := by
  have hs1 := h1.size; have hs2 := hb2.size; have hs3 := hb3.size
  have hA : Below w3.heap.size w3 ((w3.alloc (.map #[] 0)).alloc (.map #[] 0)) := ((Below.refl _ _).alloc (Nat.le_refl _) _).alloc (by rw [one_size]; omega) _
  have mD : (w3.alloc (.map #[] 0)).ownsMap Tryd.prog 9 Rv w3.heap.size 1000000 (toD strD ([] : MV (List UInt8))) := map_tight (enc := strD) (m := ([] : MV (List UInt8))) (World.ownsMap_made w3 Tryd.prog 9 Rv) (by decide)
  have mK : ((w3.alloc (.map #[] 0)).alloc (.map #[] 0)).ownsMap Tryd.prog 9 Rv (w3.heap.size + 1) 1000000 (toD nodK ([] : MV (Nat × Int))) := by
    have := map_tight (enc := nodK) (m := ([] : MV (Nat × Int))) (n' := 1000000) (World.ownsMap_made (w3.alloc (.map #[] 0)) Tryd.prog 9 Rv) (by decide)
    rw [one_size] at this
    exact this
  have hgl := h3.lt_g; have hbl := h3.lt_b; have hbg := h3.baseg; have hbb := h3.baseb
  refine ⟨⟨⟨((h2.below hb3).below hA).mono hs1, (h3.below hA).mono (by omega), mD.alloc _, mK, fun x hx => ?_, ⟨by omega, by omega, by omega, by omega, by omega⟩, ⟨by omega, by omega⟩⟩, good_new p m, .nil _, Nat.le_refl _, Nat.le_refl _, Nat.le_refl _, Nat.le_refl _⟩, ?_⟩
  · have := h2.lt x hx
    omega
  · exact ((h1.trans (hb2.mono hs1)).trans (hb3.mono (by omega))).trans (hA.mono (by omega))
end Go.Proofs.YthcjjekkjbidlaaDoor.Sr
/-
  The contract of the statements' awake: a file entered, then written.
-/
namespace Go.Proofs.YthcjjekkjbidlaaDoor.Sr
open Go.RowKit Go.Maps Go.WideMaps Go.Proofs.YthcjjekkjbidlaaDoor.Rf Go.Proofs.YthcjjekkjbidlaaDoor.Nm Go.Proofs.YthcjjekkjbidlaaDoor.St

def p0 : List UInt8 := [47, 102]
theorem sp0 : splitP p0 = some [[102]] := by decide +kernel
theorem se0 : splitE p0 = 0 := by rw [splitE, sp0]; rfl
theorem sl0 : splitL p0 = [[102]] := by rw [splitL, sp0]; rfl
theorem chk0 : chkA (asFile zeroA) = true := by decide +kernel
def e0 : SE := ⟨p0, 1, 1, 2, 1, 1, List.replicate 32 0⟩
theorem e0_fits : e0.Fits := ⟨by decide, by decide, by decide, by decide, by decide, by decide, by decide⟩
theorem may0 : mayN e0 = 0 := by decide +kernel
theorem set0 : setX e0 [] = (0, [e0]) := by rw [setX, if_neg (by rw [may0]; simp), if_neg (by simp)]; rfl
theorem add0 (p m : Nat) : addE p0 [97] (asFile zeroA) (newT p m) = 0 := by
  rw [addE, se0, sl0, chk0]
  simp [newT, rootE, getT, abvE, kidsT, kidOf]
theorem tick_two (a b : TE) (c : Int) : tickT [b.p, a.p] c [a, b] = [{ a with tick := c }, { b with tick := c }] := by
  by_cases h : a.p = b.p
  · simp [tickT, tick1, h]
  · have h2 : b.p ≠ a.p := Ne.symm h
    simp [tickT, tick1, h, h2]
def r1 (p m : Nat) : TE := { rootE p m with tick := 1 }
def n1 (q : Nat) (m : Option Nat) (v : Value) : TE := ⟨[[102]], 2, 1, asFile zeroA, [97], q, m, v⟩
def n2 (q : Nat) (m : Option Nat) (v : Value) : TE := ⟨[[102]], 2, 2, asFile zeroA, [98], q, m, v⟩
theorem list1 {p m : Nat} {n u : TE} (hu : u ∈ (newT p m).L) (h1 : n.nm = splitL p0) (h2 : n.ino = (newT p m).most + 1) (h3 : n.at_ = asFile zeroA) (h4 : n.data = [97]) :
    tickT [n.p, u.p] (((newT p m).clock + 1 : Nat) : Int) (insT n (newT p m).L) = [r1 p m, n1 n.p n.m n.xv] := by
  obtain rfl := List.mem_singleton.1 hu
  obtain ⟨nm, ino, tick, at_, data, q, mm, v⟩ := n
  rw [sl0] at h1
  dsimp only at h1 h2 h3 h4
  subst h1 h2 h3 h4
  have : insT ⟨[[102]], (newT p m).most + 1, tick, asFile zeroA, [97], q, mm, v⟩ (newT p m).L = [rootE p m, ⟨[[102]], (newT p m).most + 1, tick, asFile zeroA, [97], q, mm, v⟩] := rfl
  rw [this]
  exact tick_two (rootE p m) ⟨[[102]], (newT p m).most + 1, tick, asFile zeroA, [97], q, mm, v⟩ _
def t1 (p m q : Nat) (mm : Option Nat) (v : Value) : Tr := ⟨[r1 p m, n1 q mm v], 1, 2, 0⟩
def t2 (p m q : Nat) (mm : Option Nat) (v : Value) : Tr := ⟨[r1 p m, n2 q mm v], 2, 2, 0⟩
theorem get1 (p m q : Nat) (mm : Option Nat) (v : Value) : getT [[102]] (t1 p m q mm v).L = some (n1 q mm v) := by simp [getT, t1, r1, rootE, n1]
theorem find1 (p m q : Nat) (mm : Option Nat) (v : Value) : findN p0 (t1 p m q mm v).L = some (n1 q mm v) ∧ findE p0 (t1 p m q mm v).L = 0 := by
  rw [findN, findE, se0, sl0, get1]; exact ⟨rfl, rfl⟩
theorem stat1 (p m q : Nat) (mm : Option Nat) (v : Value) : (statN p0 (t1 p m q mm v).L).stat.toArray = #[.int .u8 1, .int .i64 1, .int .u64 2, .int .i64 1] := by
  rw [statN, (find1 p m q mm v).1]; rfl
theorem fresh_same (q : Nat) (mm : Option Nat) (v : Value) : chgB [e0] (n1 q mm v) = false := by
  have h1 : getL p0 [e0] = some e0 := rfl
  have h2 : pathN (n1 q mm v).nm = p0 := rfl
  have h3 : statIs e0 (stF (n1 q mm v)) = true := rfl
  rw [chgB, h2, freshX, h1]
  dsimp only
  rw [h3]; rfl
theorem fresh_turned (q : Nat) (mm : Option Nat) (v : Value) : chgB [e0] (n2 q mm v) = true := by
  have h1 : getL p0 [e0] = some e0 := rfl
  have h2 : pathN (n2 q mm v).nm = p0 := rfl
  have h3 : statIs e0 (stF (n2 q mm v)) = false := rfl
  rw [chgB, h2, freshX, h1]
  dsimp only
  rw [h3]; rfl
theorem root_still (p m : Nat) : chgB [e0] (r1 p m) = false := rfl
theorem chg1 (p m q : Nat) (mm : Option Nat) (v : Value) : chgL [e0] (t1 p m q mm v).L = [] := by
  rw [chgL, t1, List.filter_cons_of_neg (by rw [root_still]; decide), List.filter_cons_of_neg (by rw [fresh_same]; decide)]; rfl
theorem chg2 (p m q : Nat) (mm : Option Nat) (v : Value) : chgL [e0] (t2 p m q mm v).L = [p0] := by
  rw [chgL, t2, List.filter_cons_of_neg (by rw [root_still]; decide), List.filter_cons_of_pos (fresh_turned _ _ _)]; rfl
theorem write1 {p m q : Nat} {mm : Option Nat} {v : Value} (hq : p ≠ q) : writeE p0 [98] (t1 p m q mm v) = 0 ∧ writeT p0 [98] (t1 p m q mm v) = t2 p m q mm v := by
  have h0 : writeE p0 [98] (t1 p m q mm v) = 0 := by
    rw [writeE, if_neg (by rw [se0]; simp), if_neg (by decide), sl0, get1]; rfl
  refine ⟨h0, ?_⟩
  rw [writeT, if_pos h0, sl0, get1]
  have hq2 : ¬ (rootE p m).p = q := hq
  simp [t1, t2, tickT, tick1, updT, n1, n2, r1, hq2]
theorem fine1 (p m q : Nat) (mm : Option Nat) (v : Value) : Fine (t1 p m q mm v) := by
  refine ⟨fun e he => ?_, fun e he => ?_, fun e he => ?_⟩
  · simp [t1] at he; rcases he with rfl | rfl <;> simp [r1, rootE, n1, asFile, zeroA]
  · simp [t1] at he; rcases he with rfl | rfl
    · exact ⟨by show (pathOf []).length ≤ _; decide, by intro s hs; cases hs⟩
    · exact ⟨by show (pathOf [[102]]).length ≤ _; decide, by intro s hs; simp [n1] at hs; subst hs; decide⟩
  · exact Nat.le_trans (List.length_filterMap_le _ _) (by show 2 ≤ _; decide)
theorem fine2 (p m q : Nat) (mm : Option Nat) (v : Value) : Fine (t2 p m q mm v) := by
  refine ⟨fun e he => ?_, fun e he => ?_, fun e he => ?_⟩
  · simp [t2] at he; rcases he with rfl | rfl <;> simp [r1, rootE, n2, asFile, zeroA]
  · simp [t2] at he; rcases he with rfl | rfl
    · exact ⟨by show (pathOf []).length ≤ _; decide, by intro s hs; cases hs⟩
    · exact ⟨by show (pathOf [[102]]).length ≤ _; decide, by intro s hs; simp [n2] at hs; subst hs; decide⟩
  · exact Nat.le_trans (List.length_filterMap_le _ _) (by show 2 ≤ _; decide)

theorem index_turn {B : Nat} {w w' : World} {g b : Nat} {L : List SE} {X : List Nat} (h : IndexAt B w g b L) (ht : Turn X w w') (hg : g ∉ X) (hb : b ∉ X) : IndexAt B w' g b L :=
  h.kept (ht.block g h.lt_g hg) (ht.block b h.lt_b hb)
set_option linter.unusedSimpArgs false in
set_option maxHeartbeats 16000000 in
set_option maxRecDepth 100000 in
theorem awake_any (w : World) : Calls Tryd.prog 21 #[] w fun e w' => e = .returned (.bool true) ∧ Below w.heap.size w w' := by
  have TN := Lib.hid (tree_new w)
  go_enter Tryd.func21, Tryd.ntmps21
  go_wp2_with fail
  refine TN.out.mono ?_
  rintro ex w1 ⟨r, p, m, rfl, ht1, hb1⟩
  have HT1 := Lib.hid ht1; have HB1 := Lib.hid hb1
  have NW := Lib.hid (new_any w1)
  clear ht1 hb1 TN
  unfold ptr
  go_wp2_with fail
  refine NW.out.mono ?_
  rintro ex w2 ⟨g, b, rfl, hi2, hb2⟩
  have HI2 := Lib.hid hi2
  have HB2 := Lib.hid (HB1.out.trans (hb2.mono HB1.out.size))
  have HT2 := Lib.hid (HT1.out.below hb2)
  -- the index lies behind the tree
  have HGB : Hid (∀ x ∈ r :: (ownL (newT p m).L ++ xobL (newT p m).L), x < g ∧ x < b) := Lib.hid (fun x hx => by
    have := HT1.out.lt x hx; have := hi2.baseg; have := hi2.baseb; omega)
  have FI := file_any w.heap.size w2 r (newT p m) p0 [97] zeroA (.slice none 0 0) (by decide) (by decide) ⟨none, 0, rfl, Nat.zero_le _, by simp [zeroA], by simp [zeroA]⟩ (by simp [zeroA, xob]) (by show (1 : Nat) < _; decide) HT2.out
  have FI := Lib.hid FI
  clear hi2 hb2 NW HT1
  unfold ptr at *
  go_wp2_with fail
  refine FI.out.mono ?_
  rintro ex w3 ⟨W, hbW, htW, rfl, _, hyes⟩
  obtain ⟨n, u, hu, _, n1', n2', n3', n4', _, ht3, hu3, hnew⟩ := hyes (add0 p m)
  rw [list1 hu n1' n2' n3' n4', add0] at *
  have ht3' : TreeAt w.heap.size w3 r (t1 p m n.p n.m n.xv) := ht3
  have HB0T : Hid (∀ x ∈ r :: (ownL (newT p m).L ++ xobL (newT p m).L), w.heap.size ≤ x) := Lib.hid HT2.out.base
  have HI3 : Hid (IndexAt w1.heap.size w3 g b []) := Lib.hid (index_turn (HI2.out.below hbW) hu3 (fun h => by
    have h2 : g ∈ r :: (ownL (newT p m).L ++ xobL (newT p m).L) := by rw [List.mem_cons] at h ⊢; exact h.imp id (fun h => List.mem_append_left _ h)
    have := (HGB.out g h2).1; omega) (fun h => by
    have h2 : b ∈ r :: (ownL (newT p m).L ++ xobL (newT p m).L) := by rw [List.mem_cons] at h ⊢; exact h.imp id (fun h => List.mem_append_left _ h)
    have := (HGB.out b h2).2; omega))
  have HB3 : Hid (Below w.heap.size w w3) := Lib.hid ((HB2.out.trans (hbW.mono HB2.out.size)).trans (hu3.below (fun y hy => HB0T.out y (by rw [List.mem_cons] at hy ⊢; exact hy.imp id (fun h => List.mem_append_left _ h))) (Nat.le_trans HB2.out.size hbW.size)))
  -- the tree's blocks and the index's
  have HSEP : Hid (∀ x ∈ r :: ownL (t1 p m n.p n.m n.xv).L, x ≠ g ∧ x ≠ b) := Lib.hid (by
    intro x hx
    have ho : x ∈ r :: (ownL (newT p m).L ++ xobL (newT p m).L) ∨ x ∈ ownE n := by
      rw [List.mem_cons] at hx
      rcases hx with hx | hx
      · left; simp [hx]
      · obtain ⟨y, hy, hxy⟩ := List.mem_flatMap.1 hx
        rcases List.mem_cons.1 hy with rfl | hy
        · exact .inl (List.mem_cons_of_mem _ (List.mem_append_left _ (List.mem_flatMap.2 ⟨rootE p m, by simp [newT], hxy⟩)))
        · rw [List.mem_singleton] at hy
          subst hy
          exact .inr hxy
    rcases ho with ho | ho
    · have := HGB.out x ho; omega
    · have h1 := hnew x (List.mem_append_left _ ho)
      have h2 := hbW.size
      have h3 := HI2.out.lt_g; have h4 := HI2.out.lt_b
      omega)
  have HT3 := Lib.hid ht3'
  clear ht3 ht3' hu3 hnew hyes hbW htW FI HT2 HI2 HB2 hu n1' n2' n3' n4'
  generalize n.p = q at *
  generalize n.m = mm at *
  generalize n.xv = v at *
  have HPQ : Hid (p ≠ q) := Lib.hid (fun h => by
    have := HT3.out.p_inj (a := r1 p m) (b := n1 q mm v) (by simp [t1]) (by simp [t1]) h
    have := congrArg TE.nm this
    cases this)
  have ST := stat_any w.heap.size w3 r (t1 p m q mm v) p0 (by decide) HT3.out
  rw [stat1, (find1 p m q mm v).2] at ST
  have ST := Lib.hid ST
  unfold ptr at ST
  go_wp2_with fail
  refine ST.out.mono ?_
  rintro ex w4 ⟨rfl, hb4⟩
  have HT4 := Lib.hid (HT3.out.below hb4); have HI4 := Lib.hid (HI3.out.below hb4); have HB4 := Lib.hid (HB3.out.trans (hb4.mono HB3.out.size))
  clear hb4 ST HT3 HI3
  go_wp2_with (first
    | (refine Sh.wpList_store_new rfl rfl 25 (.tmp 3) (.tmp 26) rfl #[.int .u8 1, .int .i64 1, .int .u64 2, .int .i64 1] rfl rfl infoSt rfl (oneSt _ _ _ _ rfl rfl rfl rfl) ?_
       intro w5 hq5 hb5 hs5
       have HT5 := Lib.hid (HT4.out.below hb5); have HI5 := Lib.hid (HI4.out.below hb5); have HB5 := Lib.hid (HB4.out.trans (hb5.mono HB4.out.size))
       have z0 : w5.cell? ⟨w4.heap.size, 0, none⟩ = some (.int .u8 1) := cell_of_heap hq5
       have z1 : w5.cell? ⟨w4.heap.size, 1, none⟩ = some (.int .i64 1) := cell_of_heap hq5
       have z2 : w5.cell? ⟨w4.heap.size, 2, none⟩ = some (.int .u64 2) := cell_of_heap hq5
       have z3 : w5.cell? ⟨w4.heap.size, 3, none⟩ = some (.int .i64 1) := cell_of_heap hq5
       clear hq5 hb5 hs5)
    | fail)
  have SE1 := set_any w1.heap.size w5 g b [] e0 e0_fits HI5.out
  rw [set0] at SE1
  have SE1 := Lib.hid SE1
  unfold ptr at SE1
  refine SE1.out.mono ?_
  rintro ex w6 ⟨rfl, hi6, ht6⟩
  have HI6 := Lib.hid hi6
  have HT6 := Lib.hid (HT5.out.turn ht6 (fun x hx h => by
    simp at h
    subst h
    rw [List.mem_cons, List.mem_append] at hx
    rcases hx with hx | hx | hx
    · exact (HSEP.out x (by simp [hx])).2 rfl
    · exact (HSEP.out x (by simp [hx])).2 rfl
    · simp [xobL, t1, r1, n1, rootE, asFile, zeroA, xob] at hx))
  have HB6 := Lib.hid (HB5.out.trans (ht6.below (fun y hy => by simp at hy; subst hy; have := HI5.out.baseb; have := HB1.out.size; omega) HB5.out.size))
  clear hi6 ht6 SE1 HI5 HT5 HI4 HT4 z0 z1 z2 z3
  have CH := changed_any w1.heap.size w6 g b [e0] HI6.out w.heap.size r (t1 p m q mm v) (fine1 _ _ _ _ _) (show 2 ≤ 1000000 by decide) HT6.out
  rw [chg1] at CH
  have CH := Lib.hid CH
  unfold ptr at CH
  go_wp2_with fail
  refine CH.out.mono ?_
  rintro ex w7 ⟨va, rfl, ho7, hb7⟩
  obtain ⟨va, ca, rfl⟩ := rowS_slice ho7
  have HI7 := Lib.hid (HI6.out.below hb7); have HT7 := Lib.hid (HT6.out.below hb7); have HB7 := Lib.hid (HB6.out.trans (hb7.mono HB6.out.size))
  clear ho7 hb7 CH HI6 HT6
  have WR := write_any w.heap.size w7 r (t1 p m q mm v) p0 [98] (by decide) (by decide) HT7.out
  rw [(write1 HPQ.out).1, (write1 HPQ.out).2] at WR
  have WR := Lib.hid WR
  unfold ptr at WR
  go_wp2_with fail
  refine WR.out.mono ?_
  rintro ex w8 ⟨rfl, ht8, hu8⟩
  have HT8 := Lib.hid ht8
  have HI8 := Lib.hid (index_turn HI7.out hu8 (fun h => (HSEP.out g h).1 rfl) (fun h => (HSEP.out b h).2 rfl))
  have HB8 := Lib.hid (HB7.out.trans (hu8.below (fun y hy => HT7.out.base y (by rw [List.mem_cons] at hy ⊢; exact hy.imp id (fun h => List.mem_append_left _ h))) HB7.out.size))
  clear ht8 hu8 WR HI7 HT7
  have CH := changed_any w1.heap.size w8 g b [e0] HI8.out w.heap.size r (t2 p m q mm v) (fine2 _ _ _ _ _) (show 2 ≤ 1000000 by decide) HT8.out
  rw [chg2] at CH
  have CH := Lib.hid CH
  unfold ptr at CH
  go_wp2_with fail
  refine CH.out.mono ?_
  rintro ex w9 ⟨vb, rfl, ho9, hb9⟩
  obtain ⟨gb, cb, rfl, _, _, _, hc9⟩ := rowS_form ho9 (by decide)
  have k9 : w9.cell? ⟨gb, 0, none⟩ = some (.string ⟨#[47, 102]⟩) := hc9 0 _ rfl
  have HB9 := Lib.hid (HB8.out.trans (hb9.mono HB8.out.size))
  clear ho9 hb9 hc9 CH
  go_wp2
  go_ret
  exact ⟨rfl, HB9.out⟩
end Go.Proofs.YthcjjekkjbidlaaDoor.Sr
