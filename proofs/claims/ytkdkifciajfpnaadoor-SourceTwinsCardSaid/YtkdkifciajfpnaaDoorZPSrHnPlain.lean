import Derived.Test.YtkdkifciajfpnaaDoorZPSrRun18
import Derived.Test.YtkdkifciajfpnaaDoorZPSrHonPlain
import Derived.Test.YtkdkifciajfpnaaDoorZPSrRead
import Derived.Test.YtkdkifciajfpnaaDoorZPSrRowN
import Derived.Test.YtkdkifciajfpnaaDoorZPSrValue
set_option linter.unusedSimpArgs false
set_option linter.unusedVariables false
/-
  SourceHonest without a walk: what a step does to a tree's numbers; what each node was; how the law keeps its things.
-/
namespace Go.Proofs.YtkdkifciajfpnaaDoor.Sr
open Go.RowKit Go.Maps Go.WideMaps Go.Proofs.YtkdkifciajfpnaaDoor.Rf Go.Proofs.YtkdkifciajfpnaaDoor.Nm Go.Proofs.YtkdkifciajfpnaaDoor.St

/-- Did a step change something? -/
def chgd (x : Stp) (T : Tr) : Bool := decide (runE x T = 0) && (decide (0 ≤ x.kind) && decide (x.kind ≤ 8))
structure RunF (x : Stp) (T T' : Tr) : Prop where
  yes : chgd x T = true → T'.clock = T.clock + 1
  no : chgd x T = false → T'.L = T.L ∧ T'.clock = T.clock
  reads : T'.reads = T.reads + if runE x T = 0 ∧ x.kind = 9 then 1 else 0
theorem writeT_clock {p d : List UInt8} {T : Tr} (h : writeE p d T = 0) : (writeT p d T).clock = T.clock + 1 ∧ (writeT p d T).reads = T.reads := by
  rw [writeT, if_pos h]
  cases hg : getT (splitL p) T.L with
  | none =>
    rw [writeE, hg] at h
    split at h
    · cases h
    · split at h
      · cases h
      · cases h
  | some n => exact ⟨rfl, rfl⟩
theorem moveTr_clock {B : Nat} {w : World} {r : Nat} {p q : List UInt8} {T : Tr} (hT : TreeAt B w r T) (h : moveE p q T = 0) : (moveTr p q T).clock = T.clock + 1 ∧ (moveTr p q T).reads = T.reads := by
  rw [moveTr, if_pos h]
  rw [moveE] at h
  split at h
  · cases h
  · split at h
    · cases h
    · cases hg : getT (splitL p) T.L with
      | none => rw [hg] at h; cases h
      | some n =>
        rw [hg] at h
        dsimp only at h
        split at h
        · cases h
        · next hne =>
          split at h
          · cases h
          · split at h
            · next ha => exact absurd h ha
            · next ha =>
              have hpn : splitL p ≠ [] := fun e => hne (.inl e)
              obtain ⟨hn, hnm⟩ := getT_nm hg
              obtain ⟨u, _, _, _, _, _, _, hu, _⟩ := hT.up hn (by rw [hnm]; exact hpn)
              rw [hnm] at hu
              have ha : abvE (splitL q) T.L = 0 := Classical.not_not.1 ha
              rw [abvE] at ha
              cases hd : getT (splitL q).dropLast T.L with
              | none => rw [hd] at ha; cases ha
              | some d => rw [hu]; exact ⟨rfl, rfl⟩
theorem dropTr_clock {B : Nat} {w : World} {r : Nat} {p : List UInt8} {T : Tr} (hT : TreeAt B w r T) (h : dropE p T = 0) : (dropTr p T).clock = T.clock + 1 ∧ (dropTr p T).reads = T.reads := by
  rw [dropTr, if_pos h]
  rw [dropE] at h
  split at h
  · cases h
  · cases hg : getT (splitL p) T.L with
    | none => rw [hg] at h; cases h
    | some n =>
      rw [hg] at h
      dsimp only at h
      split at h
      · cases h
      · next hpn =>
        obtain ⟨hn, hnm⟩ := getT_nm hg
        obtain ⟨u, _, _, _, _, _, _, hu, _⟩ := hT.up hn (by rw [hnm]; exact hpn)
        rw [hnm] at hu
        rw [hu]; exact ⟨rfl, rfl⟩
theorem RunIs.facts {B : Nat} {w : World} {r : Nat} {x : Stp} {T T' : Tr} (hT : TreeAt B w r T) (h : RunIs x T T') : RunF x T T' := by
  unfold RunIs at h
  by_cases h0 : runE x T = 0
  case neg =>
    rw [if_pos h0] at h
    subst h
    have hc : chgd x T' = false := by rw [chgd, decide_eq_false h0, Bool.false_and]
    exact ⟨(fun hy => by rw [hc] at hy; cases hy), fun _ => ⟨rfl, rfl⟩, by rw [if_neg (fun h => h0 h.1)]; rfl⟩
  rw [if_neg (by simp [h0])] at h
  have key : ∀ (_ : 0 ≤ x.kind ∧ x.kind ≤ 8) (_ : T'.clock = T.clock + 1 ∧ T'.reads = T.reads), RunF x T T' := fun hk hT => by
    have hc : chgd x T = true := by rw [chgd, decide_eq_true h0, decide_eq_true hk.1, decide_eq_true hk.2]; rfl
    exact ⟨fun _ => hT.1, (fun hn => by rw [hc] at hn; cases hn), by rw [if_neg (fun h => by omega)]; exact hT.2⟩
  have kee : ¬ (0 ≤ x.kind ∧ x.kind ≤ 8) → chgd x T = false := fun hk => by
    cases hc : chgd x T with
    | false => rfl
    | true =>
      simp only [chgd, Bool.and_eq_true, decide_eq_true_eq] at hc
      exact absurd hc.2 hk
  have add : ∀ {p d : List UInt8} {A : XA}, AddIs p d A T T' → T'.clock = T.clock + 1 ∧ T'.reads = T.reads := by
    rintro p d A ⟨n, u, _, _, _, _, _, _, _, rfl⟩; exact ⟨rfl, rfl⟩
  have set : ∀ {p : List UInt8} {f : TE → XA}, SetIs p f T T' → T'.clock = T.clock + 1 ∧ T'.reads = T.reads := by
    rintro p f ⟨n, xv, _, rfl⟩; exact ⟨rfl, rfl⟩
  have e := h0
  unfold runE at e
  by_cases k0 : x.kind = 0
  · rw [if_pos k0] at h; exact key (by omega) (add h)
  rw [if_neg k0] at h e
  by_cases k1 : x.kind = 1
  · rw [if_pos k1] at h; exact key (by omega) (add h)
  rw [if_neg k1] at h e
  by_cases k2 : x.kind = 2
  · rw [if_pos k2] at h; exact key (by omega) (add h)
  rw [if_neg k2] at h e
  by_cases k3 : x.kind = 3
  · rw [if_pos k3] at h e; subst h; exact key (by omega) (writeT_clock e)
  rw [if_neg k3] at h e
  by_cases k4 : x.kind = 4
  · rw [if_pos k4] at h; exact key (by omega) (set h)
  rw [if_neg k4] at h e
  by_cases k5 : x.kind = 5
  · rw [if_pos k5] at h; exact key (by omega) (set h)
  rw [if_neg k5] at h e
  by_cases k6 : x.kind = 6
  · rw [if_pos k6] at h; exact key (by omega) (set h)
  rw [if_neg k6] at h e
  by_cases k7 : x.kind = 7
  · rw [if_pos k7] at h e; subst h; exact key (by omega) (moveTr_clock hT e)
  rw [if_neg k7] at h e
  by_cases k8 : x.kind = 8
  · rw [if_pos k8] at h e; subst h; exact key (by omega) (dropTr_clock hT e)
  rw [if_neg k8] at h e
  by_cases k9 : x.kind = 9
  · rw [if_pos k9] at h; subst h
    have hc := kee (by omega)
    exact ⟨(fun hy => by rw [hc] at hy; cases hy), fun _ => ⟨rfl, rfl⟩, by rw [if_pos ⟨h0, k9⟩]⟩
  · rw [if_neg k9] at h; subst h
    have hc := kee (by omega)
    exact ⟨(fun hy => by rw [hc] at hy; cases hy), fun _ => ⟨rfl, rfl⟩, by rw [if_neg (fun h => k9 h.2)]; rfl⟩

/-- How the law keeps its things: the tree, and what it was told last. -/
structure HnSt (B : Nat) (w : World) (r : Nat) (T : Tr) (v0 : Value) (R0 : List (TE × Value)) (g k : Nat) : Prop where
  tree : TreeAt B w r T
  good : Good k T
  reads : T.reads ≤ k
  out : OutAt B w v0 R0
  map : R0.map (·.1) = T.L
  sep : ∀ x ∈ r :: (ownL T.L ++ xobL T.L), x ∉ ob v0 ++ R0.flatMap (fun p => ob p.2)
  most : g ≤ T.most
theorem OutAt.mono {C C' : Nat} {w : World} {v : Value} {R : List (TE × Value)} (h : OutAt C w v R) (hc : C' ≤ C) : OutAt C' w v R :=
  ⟨row_mono h.row hc, fun p hp => row_mono (h.xrow p hp) hc, h.nod⟩
theorem OutAt.lt {C : Nat} {w : World} {v : Value} {R : List (TE × Value)} (h : OutAt C w v R) : ∀ b ∈ ob v ++ R.flatMap (fun p => ob p.2), C ≤ b ∧ b < w.heap.size := by
  intro b hb
  rcases List.mem_append.1 hb with hb | hb
  · exact ⟨rowS_ge h.row b hb, rowS_lt h.row b hb⟩
  · obtain ⟨p, hp, hb⟩ := List.mem_flatMap.1 hb
    exact ⟨rowS_ge (h.xrow p hp) b hb, rowS_lt (h.xrow p hp) b hb⟩
/-- Rows that were told lie apart from a tree. -/
theorem told_apart {B' : Nat} {w w' : World} {r : Nat} {T : Tr} {v : Value} {R : List (TE × Value)} (hT : TreeAt B' w r T) (h : OutAt w.heap.size w' v R) : ∀ x ∈ r :: (ownL T.L ++ xobL T.L), x ∉ ob v ++ R.flatMap (fun p => ob p.2) := by
  intro x hx hb
  have h1 := hT.lt x hx
  have h2 := (h.lt x hb).1
  omega
section
variable {B : Nat} {w w' : World} {r : Nat} {T : Tr} {v0 : Value} {R0 : List (TE × Value)} {g k : Nat}
theorem HnSt.below (h : HnSt B w r T v0 R0 g k) (hb : Below w.heap.size w w') : HnSt B w' r T v0 R0 g k :=
  ⟨h.tree.below hb, h.good, h.reads, h.out.below hb, h.map, h.sep, h.most⟩
/-- What is left of it behind a step. -/
structure HnRun (B : Nat) (w' : World) (r : Nat) (T T' : Tr) (v0 : Value) (R0 : List (TE × Value)) (k : Nat) (x : Stp) : Prop where
  tree : TreeAt B w' r T'
  good : Good (k + 1) T'
  reads : T'.reads ≤ k + 1
  out : OutAt B w' v0 R0
  was : Was T T'
  most : T.most ≤ T'.most
  facts : RunF x T T'
theorem HnSt.run (h : HnSt B w r T v0 R0 g k) {x : Stp} {e : Ending} (hp : RunP B w r T x e w') (hB : B ≤ w.heap.size) : e = .returned (.int .i64 (runE x T)) ∧ ∃ T', HnRun B w' r T T' v0 R0 k x ∧ Below B w w' := by
  obtain ⟨he, T', htr, htu, how, hch, hri⟩ := hp
  have hF := hri.facts h.tree
  have hG := ChT.good h.tree hch h.good
  refine ⟨he, T', ⟨htr, ⟨hG.deep, hG.names, hG.att, hG.data, hG.ino, hG.inos, hG.tick, hG.clock, hG.most, hG.len⟩, ?_, h.out.kept (fun b hb hl => htu.block b hl (fun hx => ?_)), (show Was T { T' with reads := T.reads } from ChT.was h.tree hch), hch.hist.most, hF⟩, htu.below (fun x hx => h.tree.base x ?_) hB⟩
  · rw [hF.reads]; have := h.reads; split <;> omega
  · refine h.sep b ?_ hb
    rw [List.mem_cons] at hx ⊢
    exact hx.imp id (fun h => List.mem_append_left _ h)
  · rw [List.mem_cons] at hx ⊢
    exact hx.imp id (fun h => List.mem_append_left _ h)
theorem HnRun.next {T' : Tr} {x : Stp} (h : HnRun B w r T T' v0 R0 k x) {v1 : Value} {R1 : List (TE × Value)} (hm : R1.map (·.1) = T'.L) (ho : OutAt w.heap.size w' v1 R1) (hb : Below w.heap.size w w') (hB : B ≤ w.heap.size) {g' : Nat} (hg : g' ≤ T'.most) : HnSt B w' r T' v1 R1 g' (k + 1) :=
  ⟨h.tree.below hb, h.good, h.reads, ho.mono hB, hm, told_apart h.tree ho, hg⟩
end
end Go.Proofs.YtkdkifciajfpnaaDoor.Sr
/-
  SourceWhole without a walk: each node but the root is in one folder; what is moved there and back is as it was.
-/
namespace Go.Proofs.YtkdkifciajfpnaaDoor.Sr
open Go.RowKit Go.Maps Go.WideMaps Go.Proofs.YtkdkifciajfpnaaDoor.Rf Go.Proofs.YtkdkifciajfpnaaDoor.Nm Go.Proofs.YtkdkifciajfpnaaDoor.St

/-! ### counting the entries of all folders -/
section
variable {α β : Type}
end
/-! ### there and back -/
structure MvFacts (T : Tr) (p q : List UInt8) (n u d : TE) (sa sb : List UInt8) : Prop where
  hp : splitL p = u.nm ++ [sa]
  hq : splitL q = d.nm ++ [sb]
  ep : splitE p = 0
  eq : splitE q = 0
  ok : MoveOk u.nm d.nm sa sb T.L n d
  hu : u ∈ T.L
  hu2 : u.at_.node = 2
  hd2 : d.at_.node = 2
  clk : T.clock < 1099511627776
  tr : moveTr p q T = { T with clock := T.clock + 1, L := tickT [u.p, d.p] ((T.clock + 1 : Nat) : Int) (moveT (u.nm ++ [sa]) (d.nm ++ [sb]) T.L) }
theorem move_facts {B : Nat} {w : World} {r : Nat} {T : Tr} {p q : List UInt8} (hT : TreeAt B w r T) (h0 : moveE p q T = 0) : ∃ n u d sa sb, MvFacts T p q n u d sa sb := by
  have hM := h0
  rw [moveE] at hM
  by_cases hp : splitE p ≠ 0
  · rw [if_pos hp] at hM; cases hM
  rw [if_neg hp] at hM
  by_cases hq : splitE q ≠ 0
  · rw [if_pos hq] at hM; cases hM
  rw [if_neg hq] at hM
  cases hg : getT (splitL p) T.L with
  | none => rw [hg] at hM; cases hM
  | some n =>
    rw [hg] at hM
    dsimp only at hM
    by_cases c1 : splitL p = [] ∨ ((splitL p).length < (splitL q).length ∧ splitL p = (splitL q).take (splitL p).length)
    · rw [if_pos c1] at hM; cases hM
    rw [if_neg c1] at hM
    have hne : splitL p ≠ [] := fun h => c1 (.inl h)
    by_cases c2 : (getT (splitL q) T.L).isSome = true
    · rw [if_pos c2] at hM; cases hM
    rw [if_neg c2] at hM
    by_cases c3 : abvE (splitL q) T.L ≠ 0
    · rw [if_pos c3] at hM; exact absurd hM c3
    rw [if_neg c3] at hM
    have c3 : abvE (splitL q) T.L = 0 := Classical.not_not.1 c3
    have hqne : splitL q ≠ [] := by
      intro hc
      obtain ⟨e, he, _⟩ := hT.root
      rw [hc, he] at c2; exact c2 rfl
    obtain ⟨hnm, hnn⟩ := getT_nm hg
    obtain ⟨u, _, sa, hu, hua, hun, _, hgu, hu2⟩ := hT.up hnm (by rw [hnn]; exact hne)
    rw [hnn] at hun hgu hua
    cases hgd : getT (splitL q).dropLast T.L with
    | none => rw [abvE, hgd] at c3; cases c3
    | some d =>
      obtain ⟨hdm, hdn⟩ := getT_nm hgd
      have hd2 : d.at_.node = 2 := by
        rw [abvE, hgd] at c3
        dsimp only at c3
        split at c3
        · next h => exact h
        · cases c3
      have hqs : splitL q = d.nm ++ [(splitL q).getLast hqne] := by rw [hdn]; exact (List.dropLast_concat_getLast hqne).symm
      have hcl : T.clock < 1099511627776 := by
        by_cases c4 : 16 < (splitL q).length + deepN T.L (splitL p)
        · rw [if_pos c4] at hM; cases hM
        · rw [if_neg c4] at hM
          split at hM
          · cases hM
          · next h => exact Nat.lt_of_not_le (fun hh => h (.inr hh))
      refine ⟨n, u, d, sa, (splitL q).getLast hqne, hua, hqs, Classical.not_not.1 hp, Classical.not_not.1 hq, ⟨hnm, by rw [hnn]; exact hua, ?_, ?_, hdm, rfl, (hT.kind d hdm).1 hd2⟩, hu, hu2, hd2, hcl, ?_⟩
      · rw [← hqs]
        cases hc : getT (splitL q) T.L with
        | none => rfl
        | some x => rw [hc] at c2; exact absurd rfl c2
      · rw [← hqs, ← hua]
        intro hpre
        have hle := hpre.length_le
        by_cases hlt : (splitL p).length < (splitL q).length
        · exact c1 (.inr ⟨hlt, List.prefix_iff_eq_take.1 hpre⟩)
        · have := hpre.eq_of_length (by omega)
          rw [← this, hg] at c2
          exact c2 rfl
      · rw [moveTr, if_pos h0, hgu, hgd, ← hqs, ← hua]
section
variable {B : Nat} {w w1 : World} {r k : Nat} {T : Tr} {p q : List UInt8}
end
end Go.Proofs.YtkdkifciajfpnaaDoor.Sr
