import Derived.Test.YthcjjekkjbidlaaDoorZPSrGood
import Derived.Test.YthcjjekkjbidlaaDoorZPNmCodec
set_option linter.unusedSimpArgs false
set_option linter.unusedVariables false
/-
  The plain law of StatixHonest: what is entered tells what a file was.
-/
namespace Go.Proofs.YthcjjekkjbidlaaDoor.Sr
open Go.RowKit Go.Maps Go.WideMaps Go.Proofs.YthcjjekkjbidlaaDoor.Rf Go.Proofs.YthcjjekkjbidlaaDoor.Nm Go.Proofs.YthcjjekkjbidlaaDoor.St

/-! ### a node's path, read again -/
theorem enc_no47 (r : Nat) (hg : goodRune r = true) (h : r ≠ 47) : ∀ c ∈ enc r, c ≠ 47 := by
  have hg' := hg
  simp only [goodRune, Bool.or_eq_true, Bool.and_eq_true, decide_eq_true_eq] at hg'
  have key : ∀ n, n < 256 → n ≠ 47 → UInt8.ofNat n ≠ 47 := fun n h1 h2 e => by
    have := congrArg UInt8.toNat e
    rw [byte_ofNat h1] at this; exact h2 this
  by_cases a1 : r < 128
  · rw [enc_1 a1]; intro c hc; simp only [List.mem_singleton] at hc; subst hc; exact key _ (by omega) h
  by_cases a2 : r < 2048
  · rw [enc_2 a1 a2]; intro c hc; simp only [List.mem_cons, List.not_mem_nil, or_false] at hc
    rcases hc with rfl | rfl <;> exact key _ (by omega) (by omega)
  by_cases a3 : r < 65536
  · rw [enc_3 hg a2 a3]; intro c hc; simp only [List.mem_cons, List.not_mem_nil, or_false] at hc
    rcases hc with rfl | rfl | rfl <;> exact key _ (by omega) (by omega)
  · rw [enc_4 hg a3]; intro c hc; simp only [List.mem_cons, List.not_mem_nil, or_false] at hc
    rcases hc with rfl | rfl | rfl | rfl <;> exact key _ (by omega) (by omega)
theorem fine_slash {a : List UInt8} (hok : okB a = true) (h : runesFine a = true) : (47 : UInt8) ∉ a := by
  intro hc
  obtain ⟨h1, h2⟩ := encs_runes a hok
  rw [← h1, encs, List.mem_flatMap] at hc
  obtain ⟨r, hr, hc⟩ := hc
  have hf : fine r = true := by
    obtain ⟨q, hq, rfl⟩ := List.mem_map.1 hr
    exact List.all_eq_true.1 h q hq
  have h47 : r ≠ 47 := by
    rintro rfl
    cases hf
  exact enc_no47 r (h2 r hr) h47 47 hc rfl
theorem inos_inj {L : List TE} (h : L.Pairwise fun a b => a.ino ≠ b.ino) {a b : TE} (ha : a ∈ L) (hb : b ∈ L) (he : a.ino = b.ino) : a = b := by
  induction L with
  | nil => cases ha
  | cons y r ih =>
    obtain ⟨h1, h2⟩ := List.pairwise_cons.1 h
    rcases List.mem_cons.1 ha with ha | ha <;> rcases List.mem_cons.1 hb with hb | hb
    · rw [ha, hb]
    · exact absurd (by rw [← ha]; exact he) (h1 b hb)
    · exact absurd (by rw [← hb]; exact he.symm) (h1 a ha)
    · exact ih h2 ha hb
theorem chk_slash {a : List UInt8} (h : chk a = true) : ∀ c ∈ a, c ≠ 47 := by
  intro c hc h47
  subst h47
  simp only [chk, Bool.and_eq_true, lenFine] at h
  have h2 := h.2
  have hok : okB a = true := h.1.1.1.1.1.1
  exact absurd hc (fine_slash hok h2)
theorem parts_path : ∀ {n : PN}, n ≠ [] → (∀ s ∈ n, chk s = true) → parts ((pathOf n).drop 1) = n
  | [], h, _ => absurd rfl h
  | [a], _, h => by
    have h1 := chk_slash (h a (by simp))
    rw [pathOf, List.flatMap_cons, List.flatMap_nil, List.append_nil, List.drop_succ_cons, List.drop_zero]
    exact parts_none a h1
  | a :: b :: r, _, h => by
    have h1 := chk_slash (h a (by simp))
    have ih := parts_path (n := b :: r) (by simp) (fun s hs => h s (List.mem_cons_of_mem _ hs))
    have e : (pathOf (a :: b :: r)).drop 1 = a ++ 47 :: ((pathOf (b :: r)).drop 1) := by
      simp [pathOf, List.flatMap_cons]
    rw [e, parts_hit _ _ h1, ih]
theorem path_count : ∀ {n : PN}, (∀ s ∈ n, chk s = true) → (pathOf n).count 47 = n.length
  | [], _ => rfl
  | a :: r, h => by
    have h1 := chk_slash (h a (by simp))
    have ih := path_count (n := r) (fun s hs => h s (List.mem_cons_of_mem _ hs))
    rw [pathOf] at ih ⊢
    rw [List.flatMap_cons, List.count_append, List.count_cons_self, ih, List.count_eq_zero.2 (fun hc => h1 47 hc rfl), List.length_cons]
    omega
theorem split_path {n : PN} (hl : n.length ≤ 16) (h : ∀ s ∈ n, chk s = true) : splitP (pathN n) = some n := by
  cases n with
  | nil => rfl
  | cons a r =>
    have hne : pathOf (a :: r) ≠ [] := by simp [pathOf, List.flatMap_cons]
    rw [pathN, if_neg hne]
    have h47 : pathOf (a :: r) ≠ [47] := by
      have ha := (chk_le (h a (by simp))).2
      intro he
      rw [pathOf, List.flatMap_cons] at he
      simp at he
      exact ha he.1
    rw [splitP, if_neg h47, if_pos]
    · rw [parts_path (by simp) h]
    · rw [parts_path (by simp) h, path_count h]
      simp only [Bool.and_eq_true, decide_eq_true_eq]
      refine ⟨⟨(hasPrefix_one _).2 ⟨a ++ pathOf r, by simp [pathOf, List.flatMap_cons]⟩, hl⟩, List.all_eq_true.2 h⟩
theorem Good.split {k : Nat} {T : Tr} (h : Good k T) {e : TE} (he : e ∈ T.L) : splitE (pathN e.nm) = 0 ∧ splitL (pathN e.nm) = e.nm := by
  have := split_path (h.deep e he) (h.names e he)
  rw [splitE, splitL, this]; exact ⟨rfl, rfl⟩

/-! ### what the law keeps -/
/-- The entries, the bytes kept beside them, the numbers kept beside them. -/
structure HonRel (T : Tr) (X : List SE) (D : MV (List UInt8)) (K : MV (Nat × Int)) : Prop where
  srt : Srt X
  keyD : ∀ p, (getM D p).isSome = (getL p X).isSome
  ent : ∀ e ∈ X, ∃ b, getM D e.path = some b ∧ getM K e.path = some (e.ino, e.tick) ∧ e.node = 1 ∧ e.size = (b.length : Int) ∧ e.ino ≤ T.most ∧ e.tick ≤ (T.clock : Int) ∧ ∀ x ∈ T.L, x.ino = e.ino → x.tick = e.tick → x.data = b ∧ x.at_.node = 1
theorem HonRel.hist {T T' : Tr} {X : List SE} {D : MV (List UInt8)} {K : MV (Nat × Int)} (h : HonRel T X D K) (hh : Hist T T') : HonRel T' X D K := by
  refine ⟨h.srt, h.keyD, fun e he => ?_⟩
  obtain ⟨b, h1, h2, h3, h4, h5, h6, h7⟩ := h.ent e he
  refine ⟨b, h1, h2, h3, h4, Nat.le_trans h5 hh.most, Int.le_trans h6 (by have := hh.clock; omega), fun x' hx' hi ht => ?_⟩
  rcases hh.node x' hx' with ⟨x, hx, e1, e2, e3, e4⟩ | ⟨e1, _⟩
  · have := h7 x hx (by rw [← e1, hi]) (by rw [← e4, ht])
    rw [e2, e3]; exact this
  · rw [e1] at ht; omega
theorem HonRel.nil (T : Tr) : HonRel T [] [] [] := ⟨List.Pairwise.nil, fun _ => rfl, fun _ h => by cases h⟩
theorem HonRel.enter {T : Tr} {X : List SE} {D : MV (List UInt8)} {K : MV (Nat × Int)} (h : HonRel T X D K) {k : Nat} (g : Good k T) {n : TE} (hn : n ∈ T.L) (hf : n.at_.node = 1) {e : SE} (hd : e.node = 1) (hs : e.size = (n.data.length : Int)) (hi : e.ino = n.ino) (ht : e.tick = n.tick) :
    HonRel T (insL e X) (putM D e.path n.data) (putM K e.path (n.ino, n.tick)) := by
  have hS := insL_srt e h.srt
  have hino : ∀ x ∈ T.L, x.ino = n.ino → x = n := by
    intro x hx hxn
    have hp := g.inos
    exact inos_inj hp hx hn hxn
  refine ⟨hS, fun p => ?_, fun x hx => ?_⟩
  · by_cases hp : e.path = p
    · subst hp
      rw [get_put_same, getL_mem hS ((mem_insL_iff h.srt).2 (.inl rfl))]; rfl
    · rw [get_put_other _ _ hp, h.keyD]
      cases hg : getL p X with
      | some x =>
        obtain ⟨h1, h2⟩ := getL_path hg
        subst h1
        rw [getL_mem hS ((mem_insL_iff h.srt).2 (.inr ⟨h2, fun he => hp he.symm⟩))]
      | none =>
        cases hg2 : getL p (insL e X) with
        | none => rfl
        | some x =>
          obtain ⟨h1, h2⟩ := getL_path hg2
          rcases (mem_insL_iff h.srt).1 h2 with rfl | ⟨h3, _⟩
          · exact absurd h1 hp
          · rw [← h1, getL_mem h.srt h3] at hg; cases hg
  · rcases (mem_insL_iff h.srt).1 hx with rfl | ⟨h1, h2⟩
    · refine ⟨n.data, get_put_same _ _ _, by rw [get_put_same, hi, ht], hd, hs, by rw [hi]; exact (g.ino n hn).2, by rw [ht]; exact (g.tick n hn).2, fun y hy hyi _ => ?_⟩
      rw [hino y hy (by rw [hyi, hi])]; exact ⟨rfl, hf⟩
    · obtain ⟨b, c1, c2, c3⟩ := h.ent x h1
      exact ⟨b, by rw [get_put_other _ _ (Ne.symm h2)]; exact c1, by rw [get_put_other _ _ (Ne.symm h2)]; exact c2, c3⟩
/-- What honest looks for, at one node. -/
def badB (told : List (List UInt8)) (D : MV (List UInt8)) (K : MV (Nat × Int)) (x : TE) : Bool :=
  (!told.contains (pathN x.nm) && (!(getM D (pathN x.nm)).isSome || !decide ((getM D (pathN x.nm)).getD [] = x.data))) ||
  (told.contains (pathN x.nm) && (getM D (pathN x.nm)).isSome && decide (((getM K (pathN x.nm)).getD (0, 0)).1 = x.ino) && decide (((getM K (pathN x.nm)).getD (0, 0)).2 = x.tick))
theorem Good.path_inj {k : Nat} {T : Tr} (g : Good k T) {a b : TE} (ha : a ∈ T.L) (hb : b ∈ T.L) (h : pathN a.nm = pathN b.nm) : a.nm = b.nm := by
  have h1 := split_path (g.deep a ha) (g.names a ha)
  rw [h, split_path (g.deep b hb) (g.names b hb)] at h1
  exact (Option.some.inj h1).symm
theorem told_iff {k : Nat} {T : Tr} (g : Good k T) (hs : SrtT T.L) {X : List SE} {x : TE} (hx : x ∈ T.L) : (chgL X T.L).contains (pathN x.nm) = chgB X x := by
  rw [Bool.eq_iff_iff, List.contains_iff_mem, chgL, List.mem_map]
  constructor
  · rintro ⟨y, hy, h1⟩
    rw [List.mem_filter] at hy
    rw [← srtT_inj hs hy.1 hx (g.path_inj hy.1 hx h1)]; exact hy.2
  · intro h
    exact ⟨x, List.mem_filter.2 ⟨hx, h⟩, rfl⟩
theorem honest_fine {T : Tr} {X : List SE} {D : MV (List UInt8)} {K : MV (Nat × Int)} (h : HonRel T X D K) {k : Nat} (g : Good k T) (hs : SrtT T.L) {x : TE} (hx : x ∈ T.L) (hf : x.at_.node = 1) : badB (chgL X T.L) D K x = false := by
  rw [badB, told_iff g hs hx, chgB, hf, freshX]
  cases hg : getL (pathN x.nm) X with
  | none =>
    have := h.keyD (pathN x.nm)
    rw [hg] at this
    rw [this]; simp
  | some e =>
    obtain ⟨h1, h2⟩ := getL_path hg
    obtain ⟨b, c1, c2, c3, c4, c5, c6, c7⟩ := h.ent e h2
    rw [h1] at c1 c2
    rw [c1, c2]
    dsimp only
    by_cases hst : statIs e (stF x) = true
    · rw [if_pos hst]
      simp only [statIs, stF, Bool.and_eq_true] at hst
      have := c7 x hx (of_decide_eq_true hst.1.2).symm (of_decide_eq_true hst.2).symm
      simp [this.1]
    · rw [if_neg hst]
      simp only [decide_true, Bool.not_false, Bool.and_self, Bool.not_true, Bool.false_and, Bool.false_or, Option.isSome_some, Bool.true_and, Option.getD_some]
      by_cases hit : e.ino = x.ino ∧ e.tick = x.tick
      · obtain ⟨d1, d2⟩ := c7 x hx hit.1.symm hit.2.symm
        refine absurd ?_ hst
        simp [statIs, stF, c3, d2, c4, d1, hit.1, hit.2]
      · rw [Bool.and_eq_false_iff, decide_eq_false_iff_not, decide_eq_false_iff_not]
        by_cases h3 : e.ino = x.ino
        · exact .inr (fun h4 => hit ⟨h3, h4⟩)
        · exact .inl h3
/-- Nothing is told any more. -/
theorem chgL_nil {X : List SE} {L : List TE} (h : ∀ x ∈ L, chgB X x = false) : chgL X L = [] := by
  rw [chgL, List.filter_eq_nil_iff.2 (fun x hx => by rw [h x hx]; decide)]; rfl
theorem chgB_entered {X : List SE} (hS : Srt X) {x : TE} {e : SE} (he : e ∈ X) (hp : e.path = pathN x.nm) (hn : e.node = x.at_.node) (hz : e.size = (x.data.length : Int)) (hi : e.ino = x.ino) (ht : e.tick = x.tick) : chgB X x = false := by
  rw [chgB, freshX, ← hp, getL_mem hS he]
  dsimp only
  rw [if_pos (by simp [statIs, stF, hn, hz, hi, ht])]
  simp
theorem chgB_other {X : List SE} (hS : Srt X) {x : TE} {e : SE} (hp : e.path ≠ pathN x.nm) (h : chgB X x = false) : chgB (insL e X) x = false := by
  rw [chgB, freshX] at h ⊢
  have : getL (pathN x.nm) (insL e X) = getL (pathN x.nm) X := by
    cases hg : getL (pathN x.nm) X with
    | some y =>
      obtain ⟨h1, h2⟩ := getL_path hg
      rw [← h1, getL_mem (insL_srt e hS) ((mem_insL_iff hS).2 (.inr ⟨h2, fun hh => hp (by rw [← hh, h1])⟩))]
    | none =>
      cases hg2 : getL (pathN x.nm) (insL e X) with
      | none => rfl
      | some y =>
        obtain ⟨h1, h2⟩ := getL_path hg2
        rcases (mem_insL_iff hS).1 h2 with rfl | ⟨h3, _⟩
        · exact absurd h1 hp
        · rw [← h1, getL_mem hS h3] at hg; cases hg
  rw [this]; exact h
end Go.Proofs.YthcjjekkjbidlaaDoor.Sr
