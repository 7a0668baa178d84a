import Derived.Test.YthcjjekkjbidlaaDoorZPSrEnter
set_option linter.unusedSimpArgs false
set_option linter.unusedVariables false
/-
  The plain steps of StatixHonest's last part: all that is told is entered, and nothing is told any more; the argument as it lies.
-/
namespace Go.Proofs.YthcjjekkjbidlaaDoor.Sr
open Go.RowKit Go.Maps Go.WideMaps Go.Proofs.YthcjjekkjbidlaaDoor.Rf Go.Proofs.YthcjjekkjbidlaaDoor.Nm Go.Proofs.YthcjjekkjbidlaaDoor.St

theorem may_node {k : Nat} {T : Tr} (g : Good k T) {y : TE} (hy : y ∈ T.L) (hs : SrtT T.L) (hf : y.at_.node = 1) : readE (pathN y.nm) T.L = 0 ∧ mayN (entN (pathN y.nm) T.L) = 0 ∧ readD (pathN y.nm) T.L = y.data ∧ (entN (pathN y.nm) T.L).node = 1 ∧ (entN (pathN y.nm) T.L).size = (y.data.length : Int) ∧ (entN (pathN y.nm) T.L).ino = y.ino ∧ (entN (pathN y.nm) T.L).tick = y.tick := by
  obtain ⟨h1, h2⟩ := g.split hy
  have hg : getT (splitL (pathN y.nm)) T.L = some y := by rw [h2]; exact getT_of hs hy
  have hr : readE (pathN y.nm) T.L = 0 := by rw [readE, if_neg (by rw [h1]; decide), hg]; exact if_neg (by rw [hf]; decide)
  obtain ⟨n, hn, _, _, _, hst, hd⟩ := read_find hr
  obtain rfl : y = n := Option.some.inj (hg.symm.trans hn)
  have hz : (statT y T.L).size = (y.data.length : Int) := by show sizeT y T.L = _; rw [sizeT, if_pos hf]
  refine ⟨hr, ?_, hd, ?_, ?_, ?_, ?_⟩
  · have hsp : splitP (pathN y.nm) = some y.nm := split_path (g.deep y hy) (g.names y hy)
    have h4 := g.ino y hy; have h5 := g.tick y hy; have h6 := g.clock; have h7 := g.data y hy
    rw [mayN]
    have e1 : (entN (pathN y.nm) T.L).path = pathN y.nm := rfl
    rw [e1, hsp]
    have e2 : statBad (entN (pathN y.nm) T.L) = false := by
      have a1 : (entN (pathN y.nm) T.L).node = y.at_.node := by show (statN _ _).node = _; rw [hst]; rfl
      have a2 : (entN (pathN y.nm) T.L).size = (y.data.length : Int) := by show (statN _ _).size = _; rw [hst]; exact hz
      have a3 : (entN (pathN y.nm) T.L).ino = y.ino := by show (statN _ _).ino = _; rw [hst]; rfl
      have a4 : (entN (pathN y.nm) T.L).tick = y.tick := by show (statN _ _).tick = _; rw [hst]; rfl
      have a5 : (entN (pathN y.nm) T.L).kind = 1 := rfl
      simp only [statBad, a1, a2, a3, a4, a5, hf, Bool.or_eq_false_iff, decide_eq_false_iff_not]
      omega
    rw [e2]; rfl
  · show (statN _ _).node = 1; rw [hst]; exact hf
  · show (statN _ _).size = _; rw [hst]; exact hz
  · show (statN _ _).ino = _; rw [hst]; rfl
  · show (statN _ _).tick = _; rw [hst]; rfl
theorem setX_yes {e : SE} {X : List SE} (hm : mayN e = 0) (hl : X.length < 65536) : setX e X = (0, insL e X) := by
  rw [setX, if_neg (by rw [hm]; simp), if_neg (by omega)]
/-- What is told and not entered yet. -/
def Left (T : Tr) (X : List SE) (told : List (List UInt8)) (j : Nat) : Prop := ∀ x ∈ T.L, chgB X x = true → pathN x.nm ∈ told.drop j
theorem left_all {T : Tr} {X : List SE} : Left T X (chgL X T.L) 0 := fun x hx h => List.mem_map.2 ⟨x, List.mem_filter.2 ⟨hx, h⟩, rfl⟩
theorem left_none {T : Tr} {X : List SE} {told : List (List UInt8)} (h : Left T X told told.length) : chgL X T.L = [] := chgL_nil (fun x hx => by
  cases hc : chgB X x with
  | false => rfl
  | true => have := h x hx hc; rw [List.drop_length] at this; cases this)
theorem left_step {k : Nat} {T : Tr} (g : Good k T) (hs : SrtT T.L) {X : List SE} (hS : Srt X) {told : List (List UInt8)} {j : Nat} (h : Left T X told j) {y : TE} (hy : y ∈ T.L) (hj : told[j]? = some (pathN y.nm)) {e : SE} (hp : e.path = pathN y.nm) (hn : e.node = y.at_.node) (hz : e.size = (y.data.length : Int)) (hi : e.ino = y.ino) (ht : e.tick = y.tick) : Left T (insL e X) told (j + 1) := by
  intro x hx hc
  by_cases hxp : pathN x.nm = pathN y.nm
  · have : x = y := srtT_inj hs hx hy (g.path_inj hx hy hxp)
    subst this
    rw [chgB_entered (insL_srt e hS) ((mem_insL_iff hS).2 (.inl rfl)) hp hn hz hi ht] at hc
    cases hc
  · have h2 : chgB X x = true := by
      cases hb : chgB X x with
      | true => rfl
      | false => rw [chgB_other hS (by rw [hp]; exact Ne.symm hxp) hb] at hc; cases hc
    have h3 := h x hx h2
    have hjl := (List.getElem?_eq_some_iff.1 hj).1
    rw [List.drop_eq_getElem_cons hjl, (List.getElem?_eq_some_iff.1 hj).2] at h3
    rcases List.mem_cons.1 h3 with h4 | h4
    · exact absurd h4 hxp
    · exact h4

/-! ### the argument -/
/-- A change, as it lies. -/
structure Chg where
  kind : Int
  path : List UInt8
  more : List UInt8
  tick : Nat
instance : Inhabited Chg := ⟨⟨0, [], [], 0⟩⟩
structure Chg.Fits (x : Chg) : Prop where
  path : x.path.length ≤ 140737488351232
  more : x.more.length ≤ 140737488351232
  tick : x.tick < 4294967296
def Chg.cells (x : Chg) : List Value := [.int .i64 x.kind, .string ⟨x.path.toArray⟩, .string ⟨x.more.toArray⟩, .int .u32 (x.tick : Int)]
def ChgsAt (w : World) (v : Value) (l : List Chg) : Prop :=
  ∃ a cap, v = .slice a l.length cap ∧ l.length ≤ maxLen ∧ (l ≠ [] → ∃ b o, a = some ⟨b, o, none⟩ ∧ b < w.heap.size ∧ ∀ (i : Nat) x, l[i]? = some x → w.rangeAt b (o + i * 4) x.cells) ∧ ∀ x ∈ l, x.Fits
theorem infoChg (x : Chg) : (Tryd.prog.info? 53).map (·.size) = some x.cells.length := by show _ = some 4; kernel_rfl
end Go.Proofs.YthcjjekkjbidlaaDoor.Sr
