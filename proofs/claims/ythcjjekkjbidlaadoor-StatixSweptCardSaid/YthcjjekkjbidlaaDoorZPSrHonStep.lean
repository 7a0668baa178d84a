import Derived.Test.YthcjjekkjbidlaaDoorZPShQuick
set_option linter.unusedSimpArgs false
set_option linter.unusedVariables false
/-
  The plain steps of StatixHonest's last part: all that is told is entered, and nothing is told any more; the argument as it lies.
-/
namespace Go.Proofs.YthcjjekkjbidlaaDoor.Sr
open Go.RowKit Go.Maps Go.WideMaps Go.Proofs.YthcjjekkjbidlaaDoor.Rf Go.Proofs.YthcjjekkjbidlaaDoor.Nm Go.Proofs.YthcjjekkjbidlaaDoor.St

/-! ### the argument -/
/-- A change, as it lies. -/
structure Chg where
  kind : Int
  path : List UInt8
  more : List UInt8
  tick : Nat
instance : Inhabited Chg := ⟨⟨0, [], [], 0⟩⟩
structure Chg.Fits (x : Chg) : Prop where
  path : x.path.length ≤ 140737488351232
  more : x.more.length ≤ 140737488351232
  tick : x.tick < 4294967296
def Chg.cells (x : Chg) : List Value := [.int .i64 x.kind, .string ⟨x.path.toArray⟩, .string ⟨x.more.toArray⟩, .int .u32 (x.tick : Int)]
def ChgsAt (w : World) (v : Value) (l : List Chg) : Prop :=
  ∃ a cap, v = .slice a l.length cap ∧ l.length ≤ maxLen ∧ (l ≠ [] → ∃ b o, a = some ⟨b, o, none⟩ ∧ b < w.heap.size ∧ ∀ (i : Nat) x, l[i]? = some x → w.rangeAt b (o + i * 4) x.cells) ∧ ∀ x ∈ l, x.Fits
theorem infoChg (x : Chg) : (Tryd.prog.info? 53).map (·.size) = some x.cells.length := by show _ = some 4; kernel_rfl
end Go.Proofs.YthcjjekkjbidlaaDoor.Sr
/-
  The plain law of StatixSwept: what is told when entries go.
-/
namespace Go.Proofs.YthcjjekkjbidlaaDoor.Sr
open Go.RowKit Go.Maps Go.WideMaps Go.Proofs.YthcjjekkjbidlaaDoor.Rf Go.Proofs.YthcjjekkjbidlaaDoor.Nm Go.Proofs.YthcjjekkjbidlaaDoor.St

theorem getL_eq {A C : List SE} (hA : Srt A) (hC : Srt C) {p : List UInt8} (h : ∀ x, x.path = p → (x ∈ A ↔ x ∈ C)) : getL p A = getL p C := by
  cases ha : getL p A with
  | some x =>
    obtain ⟨h1, h2⟩ := getL_path ha
    rw [← h1, getL_mem hC ((h x h1).1 h2)]
  | none =>
    cases hc : getL p C with
    | none => rfl
    | some y =>
      obtain ⟨h1, h2⟩ := getL_path hc
      rw [← h1, getL_mem hA ((h y h1).2 h2)] at ha; cases ha
theorem mem_remL_iff {p : List UInt8} {x : SE} : ∀ {L : List SE}, Srt L → (x ∈ remL p L ↔ x ∈ L ∧ x.path ≠ p)
  | [], _ => by simp [remL]
  | y :: r, h => by
    obtain ⟨h1, h2⟩ := List.pairwise_cons.1 h
    have ih := mem_remL_iff (p := p) (x := x) h2
    rw [remL]
    split
    · next hlt =>
      rw [List.mem_cons, ih, List.mem_cons]
      constructor
      · rintro (rfl | ⟨h3, h4⟩)
        · exact ⟨.inl rfl, lt_ne hlt⟩
        · exact ⟨.inr h3, h4⟩
      · rintro ⟨rfl | h3, h4⟩
        · exact .inl rfl
        · exact .inr ⟨h3, h4⟩
    · next hlt =>
      split
      · next heq =>
        rw [List.mem_cons]
        constructor
        · intro h3
          exact ⟨.inr h3, fun h4 => lt_ne (h1 x h3) (heq.trans h4.symm)⟩
        · rintro ⟨rfl | h3, h4⟩
          · exact absurd heq h4
          · exact h3
      · next hne =>
        constructor
        · intro h3
          refine ⟨h3, fun h4 => ?_⟩
          rcases List.mem_cons.1 h3 with rfl | h5
          · exact hne h4
          · have := h1 x h5
            rw [h4] at this
            exact hlt this
        · exact fun h3 => h3.1
/-- The files of a tree, by their paths. -/
def filN (L : List TE) : List TE := L.filter fun x => decide (x.at_.node = 1)
def filT (L : List TE) : List (List UInt8) := (filN L).map fun x => pathN x.nm
theorem chgB_keep {X : List SE} (hS : Srt X) {L : List TE} {x : TE} (hx : x ∈ L) : chgB (keepL (filT L) X) x = chgB X x := by
  rw [chgB, chgB]
  by_cases h1 : x.at_.node = 1
  · have hp : pathN x.nm ∈ filT L := List.mem_map.2 ⟨x, List.mem_filter.2 ⟨hx, by simpa using h1⟩, rfl⟩
    have : getL (pathN x.nm) (keepL (filT L) X) = getL (pathN x.nm) X := getL_eq (keepL_srt hS) hS (fun y hy => by
      rw [keepL, List.mem_filter, hy]
      exact ⟨fun h => h.1, fun h => ⟨h, by rw [List.contains_iff_mem]; exact hp⟩⟩)
    rw [freshX, freshX, this]
  · rw [decide_eq_false h1]; rfl
theorem chgL_keep {X : List SE} (hS : Srt X) (L : List TE) : chgL (keepL (filT L) X) L = chgL X L := by
  rw [chgL, chgL]
  congr 1
  exact List.filter_congr (fun x hx => chgB_keep hS hx)
/-- Changed, or dropped. -/
def c2B (X : List SE) (p : List UInt8) (x : TE) : Bool := chgB X x || (decide (x.at_.node = 1) && decide (pathN x.nm = p))
theorem chgB_rem {X : List SE} (hS : Srt X) (p : List UInt8) (x : TE) : chgB (remL p X) x = c2B X p x := by
  rw [c2B, chgB, chgB]
  by_cases h1 : x.at_.node = 1
  · rw [decide_eq_true h1, Bool.true_and, Bool.true_and, Bool.true_and]
    by_cases hp : pathN x.nm = p
    · have : getL (pathN x.nm) (remL p X) = none := by
        cases hg : getL (pathN x.nm) (remL p X) with
        | none => rfl
        | some y =>
          obtain ⟨h2, h3⟩ := getL_path hg
          exact absurd (h2.trans hp) ((mem_remL_iff hS).1 h3).2
      rw [freshX, this, decide_eq_true hp]; simp
    · have : getL (pathN x.nm) (remL p X) = getL (pathN x.nm) X := getL_eq (remL_srt hS) hS (fun y hy => by
        rw [mem_remL_iff hS]
        exact ⟨fun h => h.1, fun h => ⟨h, fun h2 => hp (hy.symm.trans h2)⟩⟩)
      rw [freshX, freshX, this, decide_eq_false hp, Bool.or_false]
  · rw [decide_eq_false h1]; rfl
theorem chg_fil (X : List SE) (L : List TE) : chgL X L = ((filN L).filter (chgB X)).map fun x => pathN x.nm := by
  rw [chgL, filN, List.filter_filter]
  congr 1
  refine List.filter_congr (fun x _ => ?_)
  rw [chgB]
  cases decide (x.at_.node = 1) <;> simp
theorem rem_fil {X : List SE} (hS : Srt X) (p : List UInt8) (L : List TE) : chgL (remL p X) L = ((filN L).filter (c2B X p)).map fun x => pathN x.nm := by
  rw [chg_fil]
  congr 1
  exact List.filter_congr (fun x _ => chgB_rem hS p x)
theorem nodup_len {α : Type} : ∀ {l m : List α}, l.Nodup → (∀ x ∈ l, x ∈ m) → l.length ≤ m.length
  | [], m, _, _ => by simp
  | a :: r, m, hn, hs => by
    classical
    obtain ⟨m1, m2, rfl⟩ := List.append_of_mem (hs a (by simp))
    rw [List.nodup_cons] at hn
    have := nodup_len (l := r) (m := m1 ++ m2) hn.2 (fun x hx => by
      have h := hs x (by simp [hx])
      have hne : x ≠ a := fun e => hn.1 (e ▸ hx)
      simp only [List.mem_append, List.mem_cons] at h ⊢
      rcases h with h | h | h
      · exact .inl h
      · exact absurd h hne
      · exact .inr h)
    simp at this ⊢
    omega
theorem keep_len {X : List SE} (hS : Srt X) (ps : List (List UInt8)) : (keepL ps X).length ≤ ps.length := by
  have h1 : ((keepL ps X).map (·.path)).Nodup := by
    rw [List.Nodup, List.pairwise_map]
    exact (keepL_srt (ps := ps) hS).imp (fun h => lt_ne h)
  have := nodup_len h1 (m := ps) (fun x hx => by
    obtain ⟨e, he, rfl⟩ := List.mem_map.1 hx
    rw [keepL, List.mem_filter, List.contains_iff_mem] at he
    exact he.2)
  rw [List.length_map] at this; exact this

/-! ### the last loop -/
/-- At file i: what is left of the told, what is left of the more. -/
structure SwAt (N : List TE) (c d : TE → Bool) (told more : List (List UInt8)) (i k q : Nat) : Prop where
  told : told.drop k = ((N.drop i).filter c).map fun x => pathN x.nm
  more : more.drop q = ((N.drop i).filter d).map fun x => pathN x.nm
theorem SwAt.start {N : List TE} {c d : TE → Bool} : SwAt N c d ((N.filter c).map fun x => pathN x.nm) ((N.filter d).map fun x => pathN x.nm) 0 0 0 := ⟨rfl, rfl⟩
theorem drop_head {α : Type} {l : List α} {k : Nat} {a : α} {r : List α} (h : l.drop k = a :: r) : l[k]? = some a ∧ l.drop (k + 1) = r ∧ k < l.length := by
  have hk : k < l.length := by
    rcases Nat.lt_or_ge k l.length with h1 | h1
    · exact h1
    · rw [List.drop_eq_nil_of_le h1] at h; cases h
  rw [List.drop_eq_getElem_cons hk] at h
  injection h with h1 h2
  exact ⟨by rw [List.getElem?_eq_getElem hk, h1], h2, hk⟩
section
variable {N : List TE} {c d : TE → Bool} {told more : List (List UInt8)} {i k q : Nat} {x : TE}
/-- A file that was told. -/
theorem SwAt.yes (h : SwAt N c d told more i k q) (hx : N[i]? = some x) (hc : c x = true) (hd : d x = true) : (told[k]? = some (pathN x.nm) ∧ k < told.length) ∧ (more[q]? = some (pathN x.nm) ∧ q < more.length) ∧ SwAt N c d told more (i + 1) (k + 1) (q + 1) := by
  have hi := (List.getElem?_eq_some_iff.1 hx).1
  have hdr : N.drop i = x :: N.drop (i + 1) := by rw [List.drop_eq_getElem_cons hi, (List.getElem?_eq_some_iff.1 hx).2]
  have h1 := h.told; have h2 := h.more
  rw [hdr, List.filter_cons, if_pos hc, List.map_cons] at h1
  rw [hdr, List.filter_cons, if_pos hd, List.map_cons] at h2
  obtain ⟨a1, a2, a3⟩ := drop_head h1
  obtain ⟨b1, b2, b3⟩ := drop_head h2
  exact ⟨⟨a1, a3⟩, ⟨b1, b3⟩, ⟨a2, b2⟩⟩
theorem SwAt.no (h : SwAt N c d told more i k q) (hinj : ∀ a ∈ N, ∀ b ∈ N, pathN a.nm = pathN b.nm → a = b) (hnd : N.Nodup) (hx : N[i]? = some x) (hc : c x = false) : (¬ k < told.length ∨ ∃ s, told[k]? = some s ∧ k < told.length ∧ s ≠ pathN x.nm) ∧ told.drop k = ((N.drop (i + 1)).filter c).map fun x => pathN x.nm := by
  have hi := (List.getElem?_eq_some_iff.1 hx).1
  have hdr : N.drop i = x :: N.drop (i + 1) := by rw [List.drop_eq_getElem_cons hi, (List.getElem?_eq_some_iff.1 hx).2]
  have h1 := h.told
  rw [hdr, List.filter_cons, if_neg (by rw [hc]; decide)] at h1
  refine ⟨?_, h1⟩
  by_cases hk : k < told.length
  · right
    refine ⟨told[k], List.getElem?_eq_getElem hk, hk, fun he => ?_⟩
    have hm : told[k] ∈ told.drop k := by rw [List.drop_eq_getElem_cons hk]; exact List.mem_cons_self
    rw [h1, List.mem_map] at hm
    obtain ⟨y, hy, hyp⟩ := hm
    have hyN := (List.mem_filter.1 hy).1
    have hyx : y = x := hinj y (List.mem_of_mem_drop hyN) x (List.mem_of_getElem? hx) (hyp.trans he)
    subst hyx
    have hnd2 : (N.drop i).Nodup := hnd.sublist (List.drop_sublist _ _)
    rw [hdr, List.nodup_cons] at hnd2
    exact hnd2.1 hyN
  · exact .inl hk
/-- A file that was not told, and is dropped. -/
theorem SwAt.drop (h : SwAt N c d told more i k q) (ht : told.drop k = ((N.drop (i + 1)).filter c).map fun x => pathN x.nm) (hx : N[i]? = some x) (hd : d x = true) : (more[q]? = some (pathN x.nm) ∧ q < more.length) ∧ SwAt N c d told more (i + 1) k (q + 1) := by
  have hi := (List.getElem?_eq_some_iff.1 hx).1
  have hdr : N.drop i = x :: N.drop (i + 1) := by rw [List.drop_eq_getElem_cons hi, (List.getElem?_eq_some_iff.1 hx).2]
  have h2 := h.more
  rw [hdr, List.filter_cons, if_pos hd, List.map_cons] at h2
  obtain ⟨b1, b2, b3⟩ := drop_head h2
  exact ⟨⟨b1, b3⟩, ⟨ht, b2⟩⟩
/-- A file that was not told, nor is dropped. -/
theorem SwAt.pass (h : SwAt N c d told more i k q) (ht : told.drop k = ((N.drop (i + 1)).filter c).map fun x => pathN x.nm) (hx : N[i]? = some x) (hd : d x = false) : SwAt N c d told more (i + 1) k q := by
  have hi := (List.getElem?_eq_some_iff.1 hx).1
  have hdr : N.drop i = x :: N.drop (i + 1) := by rw [List.drop_eq_getElem_cons hi, (List.getElem?_eq_some_iff.1 hx).2]
  have h2 := h.more
  rw [hdr, List.filter_cons, if_neg (by rw [hd]; decide)] at h2
  exact ⟨ht, h2⟩
theorem SwAt.fin (h : SwAt N c d told more N.length k q) : more.length ≤ q := by
  have := h.more
  rw [List.drop_length] at this
  exact List.drop_eq_nil_iff.1 this
end
end Go.Proofs.YthcjjekkjbidlaaDoor.Sr
