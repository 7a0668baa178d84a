import Derived.Test.YthcjjekkjbidlaaDoorZPSrNew
import Derived.Test.YthcjjekkjbidlaaDoorZPNmCodec
import Derived.Test.YthcjjekkjbidlaaDoorZPSrRun18
import Derived.Test.YthcjjekkjbidlaaDoorZPSrRead
import Derived.Test.YthcjjekkjbidlaaDoorZPSrMove
import Derived.Test.YthcjjekkjbidlaaDoorZPSrHapp
import Derived.Test.YthcjjekkjbidlaaDoorZPSrWrite
set_option linter.unusedSimpArgs false
set_option linter.unusedVariables false
/-
  The plain law of StatixHonest: what is entered tells what a file was.
-/
namespace Go.Proofs.YthcjjekkjbidlaaDoor.Sr
open Go.RowKit Go.Maps Go.WideMaps Go.Proofs.YthcjjekkjbidlaaDoor.Rf Go.Proofs.YthcjjekkjbidlaaDoor.Nm Go.Proofs.YthcjjekkjbidlaaDoor.St

/-! ### a node's path, read again -/
theorem enc_no47 (r : Nat) (hg : goodRune r = true) (h : r ≠ 47) : ∀ c ∈ enc r, c ≠ 47 := by
  have hg' := hg
  simp only [goodRune, Bool.or_eq_true, Bool.and_eq_true, decide_eq_true_eq] at hg'
  have key : ∀ n, n < 256 → n ≠ 47 → UInt8.ofNat n ≠ 47 := fun n h1 h2 e => by
    have := congrArg UInt8.toNat e
    rw [byte_ofNat h1] at this; exact h2 this
  by_cases a1 : r < 128
  · rw [enc_1 a1]; intro c hc; simp only [List.mem_singleton] at hc; subst hc; exact key _ (by omega) h
  by_cases a2 : r < 2048
  · rw [enc_2 a1 a2]; intro c hc; simp only [List.mem_cons, List.not_mem_nil, or_false] at hc
    rcases hc with rfl | rfl <;> exact key _ (by omega) (by omega)
  by_cases a3 : r < 65536
  · rw [enc_3 hg a2 a3]; intro c hc; simp only [List.mem_cons, List.not_mem_nil, or_false] at hc
    rcases hc with rfl | rfl | rfl <;> exact key _ (by omega) (by omega)
  · rw [enc_4 hg a3]; intro c hc; simp only [List.mem_cons, List.not_mem_nil, or_false] at hc
    rcases hc with rfl | rfl | rfl | rfl <;> exact key _ (by omega) (by omega)
theorem fine_slash {a : List UInt8} (hok : okB a = true) (h : runesFine a = true) : (47 : UInt8) ∉ a := by
  intro hc
  obtain ⟨h1, h2⟩ := encs_runes a hok
  rw [← h1, encs, List.mem_flatMap] at hc
  obtain ⟨r, hr, hc⟩ := hc
  have hf : fine r = true := by
    obtain ⟨q, hq, rfl⟩ := List.mem_map.1 hr
    exact List.all_eq_true.1 h q hq
  have h47 : r ≠ 47 := by
    rintro rfl
    cases hf
  exact enc_no47 r (h2 r hr) h47 47 hc rfl
theorem inos_inj {L : List TE} (h : L.Pairwise fun a b => a.ino ≠ b.ino) {a b : TE} (ha : a ∈ L) (hb : b ∈ L) (he : a.ino = b.ino) : a = b := by
  induction L with
  | nil => cases ha
  | cons y r ih =>
    obtain ⟨h1, h2⟩ := List.pairwise_cons.1 h
    rcases List.mem_cons.1 ha with ha | ha <;> rcases List.mem_cons.1 hb with hb | hb
    · rw [ha, hb]
    · exact absurd (by rw [← ha]; exact he) (h1 b hb)
    · exact absurd (by rw [← hb]; exact he.symm) (h1 a ha)
    · exact ih h2 ha hb
theorem chk_slash {a : List UInt8} (h : chk a = true) : ∀ c ∈ a, c ≠ 47 := by
  intro c hc h47
  subst h47
  simp only [chk, Bool.and_eq_true, lenFine] at h
  have h2 := h.2
  have hok : okB a = true := h.1.1.1.1.1.1
  exact absurd hc (fine_slash hok h2)
theorem parts_path : ∀ {n : PN}, n ≠ [] → (∀ s ∈ n, chk s = true) → parts ((pathOf n).drop 1) = n
  | [], h, _ => absurd rfl h
  | [a], _, h => by
    have h1 := chk_slash (h a (by simp))
    rw [pathOf, List.flatMap_cons, List.flatMap_nil, List.append_nil, List.drop_succ_cons, List.drop_zero]
    exact parts_none a h1
  | a :: b :: r, _, h => by
    have h1 := chk_slash (h a (by simp))
    have ih := parts_path (n := b :: r) (by simp) (fun s hs => h s (List.mem_cons_of_mem _ hs))
    have e : (pathOf (a :: b :: r)).drop 1 = a ++ 47 :: ((pathOf (b :: r)).drop 1) := by
      simp [pathOf, List.flatMap_cons]
    rw [e, parts_hit _ _ h1, ih]
theorem path_count : ∀ {n : PN}, (∀ s ∈ n, chk s = true) → (pathOf n).count 47 = n.length
  | [], _ => rfl
  | a :: r, h => by
    have h1 := chk_slash (h a (by simp))
    have ih := path_count (n := r) (fun s hs => h s (List.mem_cons_of_mem _ hs))
    rw [pathOf] at ih ⊢
    rw [List.flatMap_cons, List.count_append, List.count_cons_self, ih, List.count_eq_zero.2 (fun hc => h1 47 hc rfl), List.length_cons]
    omega
theorem split_path {n : PN} (hl : n.length ≤ 16) (h : ∀ s ∈ n, chk s = true) : splitP (pathN n) = some n := by
  cases n with
  | nil => rfl
  | cons a r =>
    have hne : pathOf (a :: r) ≠ [] := by simp [pathOf, List.flatMap_cons]
    rw [pathN, if_neg hne]
    have h47 : pathOf (a :: r) ≠ [47] := by
      have ha := (chk_le (h a (by simp))).2
      intro he
      rw [pathOf, List.flatMap_cons] at he
      simp at he
      exact ha he.1
    rw [splitP, if_neg h47, if_pos]
    · rw [parts_path (by simp) h]
    · rw [parts_path (by simp) h, path_count h]
      simp only [Bool.and_eq_true, decide_eq_true_eq]
      refine ⟨⟨(hasPrefix_one _).2 ⟨a ++ pathOf r, by simp [pathOf, List.flatMap_cons]⟩, hl⟩, List.all_eq_true.2 h⟩
theorem Good.split {k : Nat} {T : Tr} (h : Good k T) {e : TE} (he : e ∈ T.L) : splitE (pathN e.nm) = 0 ∧ splitL (pathN e.nm) = e.nm := by
  have := split_path (h.deep e he) (h.names e he)
  rw [splitE, splitL, this]; exact ⟨rfl, rfl⟩

/-! ### what the law keeps -/
/-- The entries, the bytes kept beside them, the numbers kept beside them. -/
structure HonRel (T : Tr) (X : List SE) (D : MV (List UInt8)) (K : MV (Nat × Int)) : Prop where
  srt : Srt X
  keyD : ∀ p, (getM D p).isSome = (getL p X).isSome
  ent : ∀ e ∈ X, ∃ b, getM D e.path = some b ∧ getM K e.path = some (e.ino, e.tick) ∧ e.node = 1 ∧ e.size = (b.length : Int) ∧ e.ino ≤ T.most ∧ e.tick ≤ (T.clock : Int) ∧ ∀ x ∈ T.L, x.ino = e.ino → x.tick = e.tick → x.data = b ∧ x.at_.node = 1
theorem HonRel.hist {T T' : Tr} {X : List SE} {D : MV (List UInt8)} {K : MV (Nat × Int)} (h : HonRel T X D K) (hh : Hist T T') : HonRel T' X D K := by
  refine ⟨h.srt, h.keyD, fun e he => ?_⟩
  obtain ⟨b, h1, h2, h3, h4, h5, h6, h7⟩ := h.ent e he
  refine ⟨b, h1, h2, h3, h4, Nat.le_trans h5 hh.most, Int.le_trans h6 (by have := hh.clock; omega), fun x' hx' hi ht => ?_⟩
  rcases hh.node x' hx' with ⟨x, hx, e1, e2, e3, e4⟩ | ⟨e1, _⟩
  · have := h7 x hx (by rw [← e1, hi]) (by rw [← e4, ht])
    rw [e2, e3]; exact this
  · rw [e1] at ht; omega
theorem HonRel.nil (T : Tr) : HonRel T [] [] [] := ⟨List.Pairwise.nil, fun _ => rfl, fun _ h => by cases h⟩
theorem Good.path_inj {k : Nat} {T : Tr} (g : Good k T) {a b : TE} (ha : a ∈ T.L) (hb : b ∈ T.L) (h : pathN a.nm = pathN b.nm) : a.nm = b.nm := by
  have h1 := split_path (g.deep a ha) (g.names a ha)
  rw [h, split_path (g.deep b hb) (g.names b hb)] at h1
  exact (Option.some.inj h1).symm
end Go.Proofs.YthcjjekkjbidlaaDoor.Sr
/-
  The plain law of SourceHonest: what a node was ahead of a call; the names in a folder as paths tell them. No walk stands in this text.
-/
namespace Go.Proofs.YthcjjekkjbidlaaDoor.Sr
open Go.RowKit Go.Maps Go.WideMaps Go.Proofs.YthcjjekkjbidlaaDoor.Rf Go.Proofs.YthcjjekkjbidlaaDoor.Nm Go.Proofs.YthcjjekkjbidlaaDoor.St

theorem tickT_map (c : Int) : ∀ (qs : List Nat) (L : List TE), tickT qs c L = L.map fun x => if x.p ∈ qs then { x with tick := c } else x
  | [], L => by
    show L = _
    simp
  | q :: r, L => by
    show tickT r c (tick1 q c L) = _
    rw [tickT_map c r, tick1, List.map_map]
    refine List.map_congr_left (fun x _ => ?_)
    show (if (if x.p = q then ({ x with tick := c } : TE) else x).p ∈ r then _ else _) = _
    by_cases h : x.p = q
    · simp [h]
    · simp [h]
theorem kids_tickT (c : Int) (qs : List Nat) (L : List TE) (n : PN) : kidsT (tickT qs c L) n = kidsT L n := by
  rw [tickT_map]
  refine kidsT_map (fun e _ => ?_) (fun e _ => ?_) n <;> (split <;> rfl)
/-- What each node was ahead of a call. -/
def Was (T T' : Tr) : Prop :=
  ∀ x' ∈ T'.L, (∃ x ∈ T.L, x'.ino = x.ino ∧ x'.data = x.data ∧ x'.at_ = x.at_ ∧ x'.tick = x.tick ∧ kidsT T'.L x'.nm = kidsT T.L x.nm) ∨
    (x'.tick = ((T.clock + 1 : Nat) : Int) ∧ T'.clock = T.clock + 1 ∧ ((∃ x ∈ T.L, x'.ino = x.ino) ∨ x'.ino = T.most + 1))
theorem ChT.was {B : Nat} {w : World} {r : Nat} {T T' : Tr} (hT : TreeAt B w r T) (h : ChT T T') : Was T T' := by
  intro x' hx'
  cases h with
  | same => exact .inl ⟨x', hx', rfl, rfl, rfl, rfl, rfl⟩
  | add n u hu hun hno hi ht hc hd ha hnm =>
    have hk := kids_tickT ((T.clock + 1 : Nat) : Int) [n.p, u.p] (insT n T.L)
    have hx2 : x' ∈ tickT [n.p, u.p] ((T.clock + 1 : Nat) : Int) (insT n T.L) := hx'
    show (∃ x ∈ T.L, _ ∧ _ ∧ _ ∧ _ ∧ kidsT (tickT [n.p, u.p] _ (insT n T.L)) x'.nm = _) ∨ _
    rw [hk]
    rw [tickT_map] at hx2
    obtain ⟨y, hy, rfl⟩ := List.mem_map.1 hx2
    by_cases hq : y.p ∈ [n.p, u.p]
    · rw [if_pos hq]
      refine .inr ⟨rfl, rfl, ?_⟩
      rcases mem_insT.1 hy with rfl | hy
      · exact .inr hi
      · exact .inl ⟨y, hy, rfl⟩
    · rw [if_neg hq]
      have hyT : y ∈ T.L := by
        rcases mem_insT.1 hy with rfl | hy
        · exact absurd (by simp) hq
        · exact hy
      refine .inl ⟨y, hyT, rfl, rfl, rfl, rfl, kids_put_other (fun s hs => ?_)⟩
      have hyu : y.nm = u.nm := by rw [hun.2, hs]; simp
      have := srtT_inj hT.srt hyT hu hyu
      exact hq (by rw [this]; simp)
  | upd n n' hn hs hc hd ha =>
    have hinj : ∀ x ∈ T.L, x.p = n.p → x = n := fun x hx hxp => hT.p_inj hx hn hxp
    have hf := updT_facts (e' := n') hinj hs.1 hs.2.2.1 hs.2.2.2.1
    have hk : ∀ m, kidsT (tickT [n.p] ((T.clock + 1 : Nat) : Int) (updT n' T.L)) m = kidsT T.L m := fun m => by
      rw [kids_tickT, updT]
      exact kidsT_map (fun e he => (hf e he).1) (fun e he => (hf e he).2.1) m
    have hx2 : x' ∈ tickT [n.p] ((T.clock + 1 : Nat) : Int) (updT n' T.L) := hx'
    show (∃ x ∈ T.L, _ ∧ _ ∧ _ ∧ _ ∧ kidsT (tickT [n.p] _ (updT n' T.L)) x'.nm = _) ∨ _
    rw [hk]
    rw [tickT_map] at hx2
    obtain ⟨y, hy, rfl⟩ := List.mem_map.1 hx2
    obtain ⟨x, hx, rfl⟩ := List.mem_map.1 hy
    by_cases hp : x.p = n'.p
    · rw [if_pos hp, if_pos (by rw [hs.2.2.1]; simp)]
      exact .inr ⟨rfl, rfl, .inl ⟨n, hn, hs.2.1⟩⟩
    · rw [if_neg hp, if_neg (by rw [← hs.2.2.1]; simpa using hp)]
      exact .inl ⟨x, hx, rfl, rfl, rfl, rfl, rfl⟩
  | del n u hn hne hu hun hc =>
    have hx2 : x' ∈ tickT [u.p] ((T.clock + 1 : Nat) : Int) (dropT n.nm T.L) := hx'
    show (∃ x ∈ T.L, _ ∧ _ ∧ _ ∧ _ ∧ kidsT (tickT [u.p] _ (dropT n.nm T.L)) x'.nm = _) ∨ _
    rw [kids_tickT]
    rw [tickT_map] at hx2
    obtain ⟨y, hy, rfl⟩ := List.mem_map.1 hx2
    obtain ⟨hyT, hyn⟩ := dropT_mem.1 hy
    by_cases hq : y.p ∈ [u.p]
    · rw [if_pos hq]
      exact .inr ⟨rfl, rfl, .inl ⟨y, hyT, rfl⟩⟩
    · rw [if_neg hq]
      refine .inl ⟨y, hyT, rfl, rfl, rfl, rfl, ?_⟩
      have hnn := (List.dropLast_concat_getLast hne).symm
      rw [hnn] at hyn ⊢
      rw [kids_drop hT.srt hyn, if_neg]
      intro hy0
      have := srtT_inj hT.srt hyT hu (hy0.trans hun.symm)
      exact hq (by rw [this]; simp)
  | move a0 b0 sa sb n u d k hu hun hc hb hnm =>
    have hx2 : x' ∈ tickT [u.p, d.p] ((T.clock + 1 : Nat) : Int) (moveT (a0 ++ [sa]) (b0 ++ [sb]) T.L) := hx'
    show (∃ x ∈ T.L, _ ∧ _ ∧ _ ∧ _ ∧ kidsT (tickT [u.p, d.p] _ (moveT (a0 ++ [sa]) (b0 ++ [sb]) T.L)) x'.nm = _) ∨ _
    rw [kids_tickT]
    rw [tickT_map] at hx2
    obtain ⟨y, hy, rfl⟩ := List.mem_map.1 hx2
    obtain ⟨x, hx, rfl⟩ := moveT_mem.1 hy
    have hpar := hT.parT
    by_cases hq : (renE (renP (a0 ++ [sa]) (b0 ++ [sb])) x).p ∈ [u.p, d.p]
    · rw [if_pos hq]
      exact .inr ⟨rfl, rfl, .inl ⟨x, hx, rfl⟩⟩
    · rw [if_neg hq]
      refine .inl ⟨x, hx, rfl, rfl, rfl, rfl, ?_⟩
      show kidsT _ (renP _ _ x.nm) = _
      by_cases h3 : (a0 ++ [sa]) <+: x.nm
      · obtain ⟨t, ht⟩ := h3
        rw [← ht, renP_in, kids_moved k hT.srt hpar]
      · have h1 : x.nm ≠ b0 := fun h => hq (by
          have := srtT_inj hT.srt hx k.dmem (h.trans k.dname.symm)
          show x.p ∈ _
          rw [this]; simp)
        have h2 : x.nm ≠ a0 := fun h => hq (by
          have := srtT_inj hT.srt hx hu (h.trans hun.symm)
          show x.p ∈ _
          rw [this]; simp)
        rw [renP_out h3, kids_stay k hT.srt hpar hx h3, kidM, if_neg h1, if_neg h2]

/-! ### the names in a folder, as paths tell them -/
theorem pathOf_cons (a : List UInt8) (r : PN) : pathOf (a :: r) = 47 :: (a ++ pathOf r) := by simp [pathOf, List.flatMap_cons]
theorem split47 : ∀ {a b x y : List UInt8}, (∀ c ∈ a, c ≠ 47) → (∀ c ∈ b, c ≠ 47) → (x = [] ∨ ∃ t, x = 47 :: t) → (y = [] ∨ ∃ t, y = 47 :: t) → a ++ x = b ++ y → a = b ∧ x = y
  | [], [], _, _, _, _, _, _, h => ⟨rfl, by simpa using h⟩
  | [], b :: bs, x, y, _, hb, hx, _, h => by
    rcases hx with rfl | ⟨t, rfl⟩
    · simp at h
    · rw [List.nil_append, List.cons_append] at h
      injection h with h _
      exact absurd h.symm (hb b (by simp))
  | a :: ar, [], x, y, ha, _, _, hy, h => by
    rcases hy with rfl | ⟨t, rfl⟩
    · simp at h
    · rw [List.nil_append, List.cons_append] at h
      injection h with h _
      exact absurd h (ha a (by simp))
  | a :: ar, b :: bs, x, y, ha, hb, hx, hy, h => by
    rw [List.cons_append, List.cons_append] at h
    injection h with h1 h2
    obtain ⟨h3, h4⟩ := split47 (fun c hc => ha c (List.mem_cons_of_mem _ hc)) (fun c hc => hb c (List.mem_cons_of_mem _ hc)) hx hy h2
    exact ⟨by rw [h1, h3], h4⟩
theorem pathOf_head (n : PN) : pathOf n = [] ∨ ∃ t, pathOf n = 47 :: t := by
  cases n with
  | nil => exact .inl rfl
  | cons a r => exact .inr ⟨_, pathOf_cons a r⟩
theorem path_under : ∀ {n m : PN} {x : List UInt8}, (∀ s ∈ n, chk s = true) → (∀ s ∈ m, chk s = true) → pathOf n ++ 47 :: x = pathOf m → ∃ t, m = n ++ t ∧ 47 :: x = pathOf t
  | [], m, x, _, _, h => ⟨m, rfl, h⟩
  | a :: r, [], x, _, _, h => by rw [pathOf_cons] at h; cases h
  | a :: r, b :: s, x, hn, hm, h => by
    rw [pathOf_cons, pathOf_cons, List.cons_append, List.append_assoc] at h
    injection h with _ h
    have hh : ∃ t, pathOf r ++ 47 :: x = 47 :: t := by
      rcases pathOf_head r with h1 | ⟨t, h1⟩ <;> rw [h1]
      · exact ⟨_, rfl⟩
      · exact ⟨_, rfl⟩
    obtain ⟨h1, h2⟩ := split47 (chk_slash (hn a (by simp))) (chk_slash (hm b (by simp))) (.inr hh) (pathOf_head s) h
    obtain ⟨t, ht, hx⟩ := path_under (fun s hs => hn s (List.mem_cons_of_mem _ hs)) (fun s hs => hm s (List.mem_cons_of_mem _ hs)) h2
    exact ⟨t, by rw [h1, ht]; rfl, hx⟩
theorem pathOf_app (a b : PN) : pathOf (a ++ b) = pathOf a ++ pathOf b := by simp [pathOf]
/-- The name that a path has in a folder's. -/
def kidS (P p : List UInt8) : Option (List UInt8) :=
  if p.length ≤ P.length + 1 then none else if p.take (P.length + 1) ≠ P ++ [47] then none else if 47 ∈ p.drop (P.length + 1) then none else some (p.drop (P.length + 1))
theorem kidS_kid {n : PN} {e : TE} (hn : ∀ s ∈ n, chk s = true) (he : ∀ s ∈ e.nm, chk s = true) : kidS (pathOf n) (pathN e.nm) = (kidOf n e).map (·.1) := by
  cases hk : kidOf n e with
  | some k =>
    obtain ⟨h1, _⟩ := kidOf_some.1 hk
    have hne : pathOf e.nm ≠ [] := by rw [h1, pathOf_app]; simp [pathOf]
    have hp : pathN e.nm = pathOf n ++ [47] ++ k.1 := by
      rw [pathN, if_neg hne, h1, pathOf_app]
      simp [pathOf]
    have hck := he k.1 (by rw [h1]; simp)
    have h2 := (chk_le hck).2
    have hl : 0 < k.1.length := List.length_pos_iff.2 h2
    have h47 := chk_slash hck
    rw [hp, kidS]
    have e1 : (pathOf n ++ [47]).length = (pathOf n).length + 1 := by simp
    rw [if_neg (by simp; omega), ← e1, List.take_left, List.drop_left, if_neg (by simp), if_neg (fun h => h47 47 h rfl)]
    rfl
  | none =>
    rw [Option.map_none, kidS]
    split
    · rfl
    · next h1 =>
      split
      · rfl
      · next h2 =>
        split
        · rfl
        · next h3 =>
          exfalso
          have hne : pathOf e.nm ≠ [] := fun h0 => by
            rw [pathN, if_pos h0] at h1
            exact h1 (by simp)
          rw [pathN, if_neg hne] at h1 h2 h3
          simp only [ne_eq, Decidable.not_not] at h2
          have h4 : pathOf n ++ 47 :: (pathOf e.nm).drop ((pathOf n).length + 1) = pathOf e.nm := by
            have := List.take_append_drop ((pathOf n).length + 1) (pathOf e.nm)
            rw [h2, List.append_assoc] at this
            exact this
          obtain ⟨t, ht, hx⟩ := path_under hn he h4
          have hct := path_count (n := t) (fun s hs => he s (by rw [ht]; exact List.mem_append_right _ hs))
          rw [← hx, List.count_cons_self, List.count_eq_zero.2 h3] at hct
          match t, hct with
          | [s], _ =>
            have := (kidOf_some (n := n) (e := e) (k := (s, e.p))).2 ⟨ht, rfl⟩
            rw [hk] at this; cases this
/-- The names in a folder. -/
def namesT (L : List TE) (n : PN) : List (List UInt8) := (kidsT L n).map (·.1)
theorem namesT_paths {L : List TE} {n : PN} (hn : ∀ s ∈ n, chk s = true) (hL : ∀ e ∈ L, ∀ s ∈ e.nm, chk s = true) : namesT L n = L.filterMap fun e => kidS (pathOf n) (pathN e.nm) := by
  rw [namesT, kidsT, List.map_filterMap]
  induction L with
  | nil => rfl
  | cons y r ih =>
    have ih := ih (fun e he => hL e (List.mem_cons_of_mem _ he))
    rw [List.filterMap_cons, List.filterMap_cons, ih, kidS_kid hn (hL y (by simp))]
end Go.Proofs.YthcjjekkjbidlaaDoor.Sr
/-
  SourceHonest without a walk: what a step does to a tree's numbers; what each node was; how the law keeps its things.
-/
namespace Go.Proofs.YthcjjekkjbidlaaDoor.Sr
open Go.RowKit Go.Maps Go.WideMaps Go.Proofs.YthcjjekkjbidlaaDoor.Rf Go.Proofs.YthcjjekkjbidlaaDoor.Nm Go.Proofs.YthcjjekkjbidlaaDoor.St

/-- Did a step change something? -/
def chgd (x : Stp) (T : Tr) : Bool := decide (runE x T = 0) && (decide (0 ≤ x.kind) && decide (x.kind ≤ 8))
structure RunF (x : Stp) (T T' : Tr) : Prop where
  yes : chgd x T = true → T'.clock = T.clock + 1
  no : chgd x T = false → T'.L = T.L ∧ T'.clock = T.clock
  reads : T'.reads = T.reads + if runE x T = 0 ∧ x.kind = 9 then 1 else 0
theorem writeT_clock {p d : List UInt8} {T : Tr} (h : writeE p d T = 0) : (writeT p d T).clock = T.clock + 1 ∧ (writeT p d T).reads = T.reads := by
  rw [writeT, if_pos h]
  cases hg : getT (splitL p) T.L with
  | none =>
    rw [writeE, hg] at h
    split at h
    · cases h
    · split at h
      · cases h
      · cases h
  | some n => exact ⟨rfl, rfl⟩
theorem moveTr_clock {B : Nat} {w : World} {r : Nat} {p q : List UInt8} {T : Tr} (hT : TreeAt B w r T) (h : moveE p q T = 0) : (moveTr p q T).clock = T.clock + 1 ∧ (moveTr p q T).reads = T.reads := by
  rw [moveTr, if_pos h]
  rw [moveE] at h
  split at h
  · cases h
  · split at h
    · cases h
    · cases hg : getT (splitL p) T.L with
      | none => rw [hg] at h; cases h
      | some n =>
        rw [hg] at h
        dsimp only at h
        split at h
        · cases h
        · next hne =>
          split at h
          · cases h
          · split at h
            · next ha => exact absurd h ha
            · next ha =>
              have hpn : splitL p ≠ [] := fun e => hne (.inl e)
              obtain ⟨hn, hnm⟩ := getT_nm hg
              obtain ⟨u, _, _, _, _, _, _, hu, _⟩ := hT.up hn (by rw [hnm]; exact hpn)
              rw [hnm] at hu
              have ha : abvE (splitL q) T.L = 0 := Classical.not_not.1 ha
              rw [abvE] at ha
              cases hd : getT (splitL q).dropLast T.L with
              | none => rw [hd] at ha; cases ha
              | some d => rw [hu]; exact ⟨rfl, rfl⟩
theorem dropTr_clock {B : Nat} {w : World} {r : Nat} {p : List UInt8} {T : Tr} (hT : TreeAt B w r T) (h : dropE p T = 0) : (dropTr p T).clock = T.clock + 1 ∧ (dropTr p T).reads = T.reads := by
  rw [dropTr, if_pos h]
  rw [dropE] at h
  split at h
  · cases h
  · cases hg : getT (splitL p) T.L with
    | none => rw [hg] at h; cases h
    | some n =>
      rw [hg] at h
      dsimp only at h
      split at h
      · cases h
      · next hpn =>
        obtain ⟨hn, hnm⟩ := getT_nm hg
        obtain ⟨u, _, _, _, _, _, _, hu, _⟩ := hT.up hn (by rw [hnm]; exact hpn)
        rw [hnm] at hu
        rw [hu]; exact ⟨rfl, rfl⟩
theorem RunIs.facts {B : Nat} {w : World} {r : Nat} {x : Stp} {T T' : Tr} (hT : TreeAt B w r T) (h : RunIs x T T') : RunF x T T' := by
  unfold RunIs at h
  by_cases h0 : runE x T = 0
  case neg =>
    rw [if_pos h0] at h
    subst h
    have hc : chgd x T' = false := by rw [chgd, decide_eq_false h0, Bool.false_and]
    exact ⟨(fun hy => by rw [hc] at hy; cases hy), fun _ => ⟨rfl, rfl⟩, by rw [if_neg (fun h => h0 h.1)]; rfl⟩
  rw [if_neg (by simp [h0])] at h
  have key : ∀ (_ : 0 ≤ x.kind ∧ x.kind ≤ 8) (_ : T'.clock = T.clock + 1 ∧ T'.reads = T.reads), RunF x T T' := fun hk hT => by
    have hc : chgd x T = true := by rw [chgd, decide_eq_true h0, decide_eq_true hk.1, decide_eq_true hk.2]; rfl
    exact ⟨fun _ => hT.1, (fun hn => by rw [hc] at hn; cases hn), by rw [if_neg (fun h => by omega)]; exact hT.2⟩
  have kee : ¬ (0 ≤ x.kind ∧ x.kind ≤ 8) → chgd x T = false := fun hk => by
    cases hc : chgd x T with
    | false => rfl
    | true =>
      simp only [chgd, Bool.and_eq_true, decide_eq_true_eq] at hc
      exact absurd hc.2 hk
  have add : ∀ {p d : List UInt8} {A : XA}, AddIs p d A T T' → T'.clock = T.clock + 1 ∧ T'.reads = T.reads := by
    rintro p d A ⟨n, u, _, _, _, _, _, _, _, rfl⟩; exact ⟨rfl, rfl⟩
  have set : ∀ {p : List UInt8} {f : TE → XA}, SetIs p f T T' → T'.clock = T.clock + 1 ∧ T'.reads = T.reads := by
    rintro p f ⟨n, xv, _, rfl⟩; exact ⟨rfl, rfl⟩
  have e := h0
  unfold runE at e
  by_cases k0 : x.kind = 0
  · rw [if_pos k0] at h; exact key (by omega) (add h)
  rw [if_neg k0] at h e
  by_cases k1 : x.kind = 1
  · rw [if_pos k1] at h; exact key (by omega) (add h)
  rw [if_neg k1] at h e
  by_cases k2 : x.kind = 2
  · rw [if_pos k2] at h; exact key (by omega) (add h)
  rw [if_neg k2] at h e
  by_cases k3 : x.kind = 3
  · rw [if_pos k3] at h e; subst h; exact key (by omega) (writeT_clock e)
  rw [if_neg k3] at h e
  by_cases k4 : x.kind = 4
  · rw [if_pos k4] at h; exact key (by omega) (set h)
  rw [if_neg k4] at h e
  by_cases k5 : x.kind = 5
  · rw [if_pos k5] at h; exact key (by omega) (set h)
  rw [if_neg k5] at h e
  by_cases k6 : x.kind = 6
  · rw [if_pos k6] at h; exact key (by omega) (set h)
  rw [if_neg k6] at h e
  by_cases k7 : x.kind = 7
  · rw [if_pos k7] at h e; subst h; exact key (by omega) (moveTr_clock hT e)
  rw [if_neg k7] at h e
  by_cases k8 : x.kind = 8
  · rw [if_pos k8] at h e; subst h; exact key (by omega) (dropTr_clock hT e)
  rw [if_neg k8] at h e
  by_cases k9 : x.kind = 9
  · rw [if_pos k9] at h; subst h
    have hc := kee (by omega)
    exact ⟨(fun hy => by rw [hc] at hy; cases hy), fun _ => ⟨rfl, rfl⟩, by rw [if_pos ⟨h0, k9⟩]⟩
  · rw [if_neg k9] at h; subst h
    have hc := kee (by omega)
    exact ⟨(fun hy => by rw [hc] at hy; cases hy), fun _ => ⟨rfl, rfl⟩, by rw [if_neg (fun h => k9 h.2)]; rfl⟩

/-- What a node behind a step was ahead of it. -/
def NodeNew (T T' : Tr) (g : Nat) (e : TE) : Prop := (∀ x ∈ T.L, x.ino ≠ e.ino) ∧ g < e.ino ∧ e.tick = (T'.clock : Int)
def NodeSame (T T' : Tr) (e x0 : TE) : Prop := e.tick = x0.tick ∧ e.at_ = x0.at_ ∧ e.data = x0.data ∧ namesT T'.L e.nm = namesT T.L x0.nm
theorem node_cases {T T' : Tr} (hW : Was T T') {k g : Nat} (G : Good k T) (hg : g ≤ T.most) {e : TE} (he : e ∈ T'.L) :
    NodeNew T T' g e ∨ ∃ x0 ∈ T.L, x0.ino = e.ino ∧ (NodeSame T T' e x0 ∨ (e.tick ≠ x0.tick ∧ e.tick = (T.clock : Int) + 1)) := by
  by_cases h : ∃ x0 ∈ T.L, x0.ino = e.ino
  · obtain ⟨x0, hx0, hi⟩ := h
    refine .inr ⟨x0, hx0, hi, ?_⟩
    rcases hW e he with ⟨x, hx, h1, h2, h3, h4, h5⟩ | ⟨h1, _⟩
    · have := inos_inj G.inos hx hx0 (h1.symm.trans hi.symm)
      subst this
      exact .inl ⟨h4, h3, h2, by rw [namesT, namesT, h5]⟩
    · have := (G.tick x0 hx0).2
      exact .inr ⟨by omega, by omega⟩
  · have hno : ∀ x ∈ T.L, x.ino ≠ e.ino := fun x hx hi => h ⟨x, hx, hi⟩
    refine .inl ⟨hno, ?_⟩
    rcases hW e he with ⟨x, hx, h1, _⟩ | ⟨h1, h2, ⟨x, hx, h3⟩ | h3⟩
    · exact absurd h1.symm (hno x hx)
    · exact absurd h3.symm (hno x hx)
    · exact ⟨by omega, by rw [h1, h2]⟩

/-- How the law keeps its things: the tree, and what it was told last. -/
structure HnSt (B : Nat) (w : World) (r : Nat) (T : Tr) (v0 : Value) (R0 : List (TE × Value)) (g k : Nat) : Prop where
  tree : TreeAt B w r T
  good : Good k T
  reads : T.reads ≤ k
  out : OutAt B w v0 R0
  map : R0.map (·.1) = T.L
  sep : ∀ x ∈ r :: (ownL T.L ++ xobL T.L), x ∉ ob v0 ++ R0.flatMap (fun p => ob p.2)
  most : g ≤ T.most
theorem OutAt.mono {C C' : Nat} {w : World} {v : Value} {R : List (TE × Value)} (h : OutAt C w v R) (hc : C' ≤ C) : OutAt C' w v R :=
  ⟨row_mono h.row hc, fun p hp => row_mono (h.xrow p hp) hc, h.nod⟩
theorem OutAt.lt {C : Nat} {w : World} {v : Value} {R : List (TE × Value)} (h : OutAt C w v R) : ∀ b ∈ ob v ++ R.flatMap (fun p => ob p.2), C ≤ b ∧ b < w.heap.size := by
  intro b hb
  rcases List.mem_append.1 hb with hb | hb
  · exact ⟨rowS_ge h.row b hb, rowS_lt h.row b hb⟩
  · obtain ⟨p, hp, hb⟩ := List.mem_flatMap.1 hb
    exact ⟨rowS_ge (h.xrow p hp) b hb, rowS_lt (h.xrow p hp) b hb⟩
/-- Rows that were told lie apart from a tree. -/
theorem told_apart {B' : Nat} {w w' : World} {r : Nat} {T : Tr} {v : Value} {R : List (TE × Value)} (hT : TreeAt B' w r T) (h : OutAt w.heap.size w' v R) : ∀ x ∈ r :: (ownL T.L ++ xobL T.L), x ∉ ob v ++ R.flatMap (fun p => ob p.2) := by
  intro x hx hb
  have h1 := hT.lt x hx
  have h2 := (h.lt x hb).1
  omega
section
variable {B : Nat} {w w' : World} {r : Nat} {T : Tr} {v0 : Value} {R0 : List (TE × Value)} {g k : Nat}
theorem HnSt.below (h : HnSt B w r T v0 R0 g k) (hb : Below w.heap.size w w') : HnSt B w' r T v0 R0 g k :=
  ⟨h.tree.below hb, h.good, h.reads, h.out.below hb, h.map, h.sep, h.most⟩
/-- What is left of it behind a step. -/
structure HnRun (B : Nat) (w' : World) (r : Nat) (T T' : Tr) (v0 : Value) (R0 : List (TE × Value)) (k : Nat) (x : Stp) : Prop where
  tree : TreeAt B w' r T'
  good : Good (k + 1) T'
  reads : T'.reads ≤ k + 1
  out : OutAt B w' v0 R0
  was : Was T T'
  most : T.most ≤ T'.most
  facts : RunF x T T'
theorem HnSt.run (h : HnSt B w r T v0 R0 g k) {x : Stp} {e : Ending} (hp : RunP B w r T x e w') (hB : B ≤ w.heap.size) : e = .returned (.int .i64 (runE x T)) ∧ ∃ T', HnRun B w' r T T' v0 R0 k x ∧ Below B w w' := by
  obtain ⟨he, T', htr, htu, how, hch, hri⟩ := hp
  have hF := hri.facts h.tree
  have hG := ChT.good h.tree hch h.good
  refine ⟨he, T', ⟨htr, ⟨hG.deep, hG.names, hG.att, hG.data, hG.ino, hG.inos, hG.tick, hG.clock, hG.most, hG.len⟩, ?_, h.out.kept (fun b hb hl => htu.block b hl (fun hx => ?_)), (show Was T { T' with reads := T.reads } from ChT.was h.tree hch), hch.hist.most, hF⟩, htu.below (fun x hx => h.tree.base x ?_) hB⟩
  · rw [hF.reads]; have := h.reads; split <;> omega
  · refine h.sep b ?_ hb
    rw [List.mem_cons] at hx ⊢
    exact hx.imp id (fun h => List.mem_append_left _ h)
  · rw [List.mem_cons] at hx ⊢
    exact hx.imp id (fun h => List.mem_append_left _ h)
theorem HnRun.next {T' : Tr} {x : Stp} (h : HnRun B w r T T' v0 R0 k x) {v1 : Value} {R1 : List (TE × Value)} (hm : R1.map (·.1) = T'.L) (ho : OutAt w.heap.size w' v1 R1) (hb : Below w.heap.size w w') (hB : B ≤ w.heap.size) {g' : Nat} (hg : g' ≤ T'.most) : HnSt B w' r T' v1 R1 g' (k + 1) :=
  ⟨h.tree.below hb, h.good, h.reads, ho.mono hB, hm, told_apart h.tree ho, hg⟩
end
end Go.Proofs.YthcjjekkjbidlaaDoor.Sr
/-
  A tree's view: names, kinds, numbers, ticks; what calls do to it, so that a closed run can be reckoned. No walk stands in this text.
-/
namespace Go.Proofs.YthcjjekkjbidlaaDoor.Sr
open Go.RowKit Go.Proofs.YthcjjekkjbidlaaDoor.Rf Go.Proofs.YthcjjekkjbidlaaDoor.Nm Go.Proofs.YthcjjekkjbidlaaDoor.St

/-- A node's names, kind, number, tick. -/
abbrev VN := PN × Nat × Nat × Int
structure VS where
  L : List VN
  clock : Nat
  most : Nat
def keyV (e : TE) : VN := (e.nm, e.at_.node, e.ino, e.tick)
def viewT (T : Tr) : VS := ⟨T.L.map keyV, T.clock, T.most⟩
def vget (n : PN) (L : List VN) : Option VN := L.find? fun e => decide (e.1 = n)
theorem vget_map (n : PN) (L : List TE) : vget n (L.map keyV) = (getT n L).map keyV := by
  rw [vget, getT, List.find?_map]; rfl
def vkid (n : PN) (x : VN) : Bool := match x.1 with | [] => false | a :: r => decide ((a :: r).dropLast = n)
theorem vkid_key (n : PN) (e : TE) : (kidOf n e).isSome = vkid n (keyV e) := by
  unfold kidOf vkid keyV
  cases h : e.nm with
  | nil => simp
  | cons a r =>
    simp only [ne_eq, reduceCtorEq, not_false_eq_true, dite_true]
    by_cases hd : (a :: r).dropLast = n
    · rw [if_pos hd]; simp [hd]
    · rw [if_neg hd]; simp [hd]
def vkids (n : PN) (L : List VN) : Nat := L.countP (vkid n)
theorem vkids_map (n : PN) (L : List TE) : (kidsT L n).length = vkids n (L.map keyV) := by
  rw [kidsT, List.length_filterMap_eq_countP, vkids, List.countP_map]
  congr 1
  funext e
  exact vkid_key n e
def vabvE (l : PN) (L : List VN) : Int := match vget l.dropLast L with | none => 6 | some u => if u.2.1 = 2 then 0 else 11
theorem vabvE_map (l : PN) (L : List TE) : abvE l L = vabvE l (L.map keyV) := by
  rw [vabvE, abvE, vget_map]
  cases getT l.dropLast L <;> rfl
def vdeep (n : PN) (L : List VN) : Nat := (L.filter fun e => n.isPrefixOf e.1).foldr (fun e d => max (e.1.length - n.length) d) 0
theorem vdeep_map (n : PN) (L : List TE) : deepN L n = vdeep n (L.map keyV) := by
  rw [deepN, subT, vdeep, List.filter_map, List.foldr_map]; rfl
def vins (e : VN) : List VN → List VN
  | [] => [e]
  | y :: r => if ahd e.1 y.1 then e :: y :: r else y :: vins e r
theorem vins_map (e : TE) : ∀ L : List TE, (insT e L).map keyV = vins (keyV e) (L.map keyV)
  | [] => rfl
  | y :: r => by
    rw [insT, List.map_cons, vins]
    show _ = if ahd e.nm y.nm then _ else _
    by_cases h : ahd e.nm y.nm = true
    · rw [if_pos h, if_pos h]; rfl
    · rw [if_neg h, if_neg h, List.map_cons, vins_map e r]
def vsort (L : List VN) : List VN := L.foldr vins []
theorem vsort_map : ∀ L : List TE, (sortT L).map keyV = vsort (L.map keyV)
  | [] => rfl
  | y :: r => by
    show (insT y (sortT r)).map keyV = vins (keyV y) (vsort (r.map keyV))
    rw [vins_map, vsort_map r]
def vren (a b : PN) (x : VN) : VN := (renP a b x.1, x.2)
def vtick (m : PN) (c : Int) (L : List VN) : List VN := L.map fun x => if x.1 = m then (x.1, x.2.1, x.2.2.1, c) else x
theorem vtick_map {L : List TE} (ho : (ownL L).Nodup) (hs : SrtT L) {q : Nat} {m : PN} (h : ∃ e ∈ L, e.p = q ∧ e.nm = m) (c : Int) : (tick1 q c L).map keyV = vtick m c (L.map keyV) := by
  obtain ⟨e, he, rfl, rfl⟩ := h
  rw [tick1, vtick, List.map_map, List.map_map]
  refine List.map_congr_left (fun x hx => ?_)
  show keyV (if x.p = e.p then _ else x) = if x.nm = e.nm then _ else _
  by_cases h : x.p = e.p
  · have hxe : x = e := flat_inj ho hx he (x := x.p) (by simp [ownE]) (by rw [h]; simp [ownE])
    rw [if_pos h, if_pos (by rw [hxe])]; rfl
  · rw [if_neg h, if_neg (fun hn => h (by rw [srtT_inj hs hx he hn]))]
theorem srt_tick1 {L : List TE} (hs : SrtT L) (q : Nat) (c : Int) : SrtT (tick1 q c L) := by
  rw [SrtT, tick1, List.pairwise_map]
  refine List.Pairwise.imp ?_ hs
  intro a b hab
  show ahd (if a.p = q then ({ a with tick := c } : TE) else a).nm (if b.p = q then ({ b with tick := c } : TE) else b).nm = true
  have h1 : (if a.p = q then ({ a with tick := c } : TE) else a).nm = a.nm := by split <;> rfl
  have h2 : (if b.p = q then ({ b with tick := c } : TE) else b).nm = b.nm := by split <;> rfl
  rw [h1, h2]; exact hab
theorem at_tick1 {L : List TE} (q : Nat) (c : Int) {a : Nat} {m : PN} (h : ∃ e ∈ L, e.p = a ∧ e.nm = m) : ∃ e ∈ tick1 q c L, e.p = a ∧ e.nm = m := by
  obtain ⟨e, he, h1, h2⟩ := h
  exact ⟨_, List.mem_map.2 ⟨e, he, rfl⟩, by rw [(tick1_fine q c L e he).2.1]; exact h1, by rw [(tick1_fine q c L e he).1]; exact h2⟩
theorem vtick_one {L : List TE} (ho : (ownL L).Nodup) (hs : SrtT L) {q : Nat} {m : PN} (h : ∃ e ∈ L, e.p = q ∧ e.nm = m) (c : Int) : (tickT [q] c L).map keyV = vtick m c (L.map keyV) := vtick_map ho hs h c
theorem vtick_two {L : List TE} (ho : (ownL L).Nodup) (hs : SrtT L) {q q2 : Nat} {m m2 : PN} (h : ∃ e ∈ L, e.p = q ∧ e.nm = m) (h2 : ∃ e ∈ L, e.p = q2 ∧ e.nm = m2) (c : Int) : (tickT [q, q2] c L).map keyV = vtick m2 c (vtick m c (L.map keyV)) := by
  show (tick1 q2 c (tick1 q c L)).map keyV = _
  rw [vtick_map (by rw [own_tick1]; exact ho) (srt_tick1 hs q c) (at_tick1 q c h2), vtick_map ho hs h]
theorem srt_untick {L : List TE} {q : Nat} {c : Int} (hs : SrtT (tick1 q c L)) : SrtT L := by
  rw [SrtT, tick1, List.pairwise_map] at hs
  refine List.Pairwise.imp ?_ hs
  intro a b hab
  have hab : ahd (if a.p = q then ({ a with tick := c } : TE) else a).nm (if b.p = q then ({ b with tick := c } : TE) else b).nm = true := hab
  have h1 : (if a.p = q then ({ a with tick := c } : TE) else a).nm = a.nm := by split <;> rfl
  have h2 : (if b.p = q then ({ b with tick := c } : TE) else b).nm = b.nm := by split <;> rfl
  rw [h1, h2] at hab; exact hab
theorem srt_unticks {c : Int} : ∀ {qs : List Nat} {L : List TE}, SrtT (tickT qs c L) → SrtT L
  | [], _, h => h
  | _ :: _, _, h => srt_untick (srt_unticks (L := tick1 _ _ _) h)

/-! ### calls -/
inductive VOp where
  | add (l : PN) (k : Nat)
  | drop (l : PN)
  | move (a b : PN)
  | has (l : PN) (k ino : Nat) (t : Int)
def verr : VOp → VS → Int
  | .add l _, V => if (vget l V.L).isSome then 7 else if vabvE l V.L ≠ 0 then vabvE l V.L else if 256 ≤ vkids l.dropLast V.L ∨ 1099511627776 ≤ V.clock then 3 else 0
  | .has l k i t, V => if vget l V.L = some (l, k, i, t) then 0 else 1
  | .drop l, V => match vget l V.L with | none => 6 | some _ => if l = [] then 1 else if 1099511627776 ≤ V.clock then 3 else 0
  | .move a b, V => match vget a V.L with
    | none => 6
    | some _ => if a = [] ∨ (a.length < b.length ∧ a = b.take a.length) then 1 else if (vget b V.L).isSome then 7 else if vabvE b V.L ≠ 0 then vabvE b V.L
      else if 16 < b.length + vdeep a V.L then 10 else if (b.dropLast ≠ a.dropLast ∧ 256 ≤ vkids b.dropLast V.L) ∨ 1099511627776 ≤ V.clock then 3 else 0
def vdo : VOp → VS → VS
  | .add l k, V => ⟨vtick l.dropLast ((V.clock + 1 : Nat) : Int) (vtick l ((V.clock + 1 : Nat) : Int) (vins (l, k, V.most + 1, 0) V.L)), V.clock + 1, V.most + 1⟩
  | .has _ _ _ _, V => V
  | .drop l, V => ⟨vtick l.dropLast ((V.clock + 1 : Nat) : Int) (V.L.filter fun e => !l.isPrefixOf e.1), V.clock + 1, V.most⟩
  | .move a b, V => ⟨vtick b.dropLast ((V.clock + 1 : Nat) : Int) (vtick a.dropLast ((V.clock + 1 : Nat) : Int) (vsort (V.L.map (vren a b)))), V.clock + 1, V.most⟩
def vnext (o : VOp) (V : VS) : VS := if verr o V = 0 then vdo o V else V
theorem vnext_has (l : PN) (k i : Nat) (t : Int) (V : VS) : vnext (.has l k i t) V = V := by rw [vnext]; split <;> rfl

theorem verr_add {p d : List UInt8} {A : XA} {T : Tr} (hp : splitE p = 0) (hA : chkA A = true) (hd : d.length ≤ 1048576) (k : Nat) : addE p d A T = verr (.add (splitL p) k) (viewT T) := by
  rw [addE, if_neg (by rw [hp]; simp), if_neg (by rw [hA]; simp; omega), verr]
  show _ = if (vget (splitL p) (T.L.map keyV)).isSome then _ else if vabvE (splitL p) (T.L.map keyV) ≠ 0 then vabvE (splitL p) (T.L.map keyV) else if 256 ≤ vkids (splitL p).dropLast (T.L.map keyV) ∨ 1099511627776 ≤ T.clock then 3 else 0
  rw [vget_map, Option.isSome_map, ← vabvE_map, ← vkids_map]
theorem verr_drop {p : List UInt8} {T : Tr} (hp : splitE p = 0) : dropE p T = verr (.drop (splitL p)) (viewT T) := by
  rw [dropE, if_neg (by rw [hp]; simp), verr]
  have hv : (viewT T).L = T.L.map keyV := rfl
  rw [hv, vget_map]
  cases getT (splitL p) T.L <;> rfl
theorem verr_move {p q : List UInt8} {T : Tr} (hp : splitE p = 0) (hq : splitE q = 0) : moveE p q T = verr (.move (splitL p) (splitL q)) (viewT T) := by
  rw [moveE, if_neg (by rw [hp]; simp), if_neg (by rw [hq]; simp), verr]
  have hv : (viewT T).L = T.L.map keyV := rfl
  rw [hv, vget_map]
  cases getT (splitL p) T.L with
  | none => rfl
  | some e =>
    show _ = if splitL p = [] ∨ ((splitL p).length < (splitL q).length ∧ splitL p = (splitL q).take (splitL p).length) then _ else if (vget (splitL q) (T.L.map keyV)).isSome then _ else if vabvE (splitL q) (T.L.map keyV) ≠ 0 then vabvE (splitL q) (T.L.map keyV)
      else if 16 < (splitL q).length + vdeep (splitL p) (T.L.map keyV) then _ else if ((splitL q).dropLast ≠ (splitL p).dropLast ∧ 256 ≤ vkids (splitL q).dropLast (T.L.map keyV)) ∨ 1099511627776 ≤ T.clock then _ else _
    rw [vget_map, Option.isSome_map, ← vabvE_map, ← vkids_map, ← vdeep_map]
theorem view_add {B : Nat} {w : World} {r : Nat} {T : Tr} {l : PN} {k : Nat} {n u : TE} (hu : u ∈ T.L) (hun : u.nm = l.dropLast) (hn : n.nm = l) (hi : n.ino = T.most + 1) (hk : n.at_.node = k) (ht : n.tick = 0)
    (h : TreeAt B w r { T with clock := T.clock + 1, most := T.most + 1, L := tickT [n.p, u.p] ((T.clock + 1 : Nat) : Int) (insT n T.L) }) :
    viewT { T with clock := T.clock + 1, most := T.most + 1, L := tickT [n.p, u.p] ((T.clock + 1 : Nat) : Int) (insT n T.L) } = vdo (.add l k) (viewT T) := by
  have ho := h.own_nod
  have ho : (ownL (tickT [n.p, u.p] ((T.clock + 1 : Nat) : Int) (insT n T.L))).Nodup := ho
  rw [own_tickT] at ho
  have hs : SrtT (insT n T.L) := srt_unticks h.srt
  show VS.mk ((tickT [n.p, u.p] ((T.clock + 1 : Nat) : Int) (insT n T.L)).map keyV) (T.clock + 1) (T.most + 1) = _
  rw [vtick_two ho hs ⟨n, mem_insT.2 (.inl rfl), rfl, rfl⟩ ⟨u, mem_insT.2 (.inr hu), rfl, rfl⟩, vins_map, hun, hn]
  have : keyV n = (l, k, T.most + 1, 0) := by rw [keyV, hn, hk, hi, ht]
  rw [this]; rfl
theorem filter_key (l : PN) (L : List TE) : (dropT l L).map keyV = (L.map keyV).filter fun e => !l.isPrefixOf e.1 := by
  rw [dropT, List.filter_map]; rfl
theorem view_drop {B : Nat} {w : World} {r : Nat} {T : Tr} {p : List UInt8} (hp : splitE p = 0) (hT : TreeAt B w r T) {w' : World} (h : TreeAt B w' r (dropTr p T)) : viewT (dropTr p T) = vnext (.drop (splitL p)) (viewT T) := by
  rw [vnext, ← verr_drop hp]
  by_cases h0 : dropE p T = 0
  · rw [if_pos h0]
    have hne : splitL p ≠ [] := by
      intro hc
      rw [dropE, if_neg (by rw [hp]; simp)] at h0
      cases hg : getT (splitL p) T.L with
      | none => rw [hg] at h0; cases h0
      | some e => rw [hg] at h0; dsimp only at h0; rw [if_pos hc] at h0; cases h0
    obtain ⟨e, he⟩ : ∃ e, getT (splitL p) T.L = some e := by
      cases hg : getT (splitL p) T.L with
      | none => rw [dropE, if_neg (by rw [hp]; simp), hg] at h0; cases h0
      | some e => exact ⟨e, rfl⟩
    obtain ⟨hem, hen⟩ := getT_nm he
    obtain ⟨u, _, _, hu, _, hun, _, hgu, _⟩ := hT.up hem (by rw [hen]; exact hne)
    rw [hen] at hun hgu
    have hTr : dropTr p T = { T with clock := T.clock + 1, L := tickT [u.p] ((T.clock + 1 : Nat) : Int) (dropT (splitL p) T.L) } := by
      rw [dropTr, if_pos h0, hgu]
    rw [hTr] at h ⊢
    have ho : (ownL (tickT [u.p] ((T.clock + 1 : Nat) : Int) (dropT (splitL p) T.L))).Nodup := h.own_nod
    rw [own_tickT] at ho
    have hs : SrtT (dropT (splitL p) T.L) := srt_unticks h.srt
    have hud : u ∈ dropT (splitL p) T.L := by
      rw [dropT, List.mem_filter]
      refine ⟨hu, ?_⟩
      rw [hun]
      cases hpre : (splitL p).isPrefixOf (splitL p).dropLast with
      | false => rfl
      | true =>
        have h1 := (List.isPrefixOf_iff_prefix.1 hpre).length_le
        rw [List.length_dropLast] at h1
        have h2 := List.length_pos_iff.2 hne
        omega
    show VS.mk ((tickT [u.p] ((T.clock + 1 : Nat) : Int) (dropT (splitL p) T.L)).map keyV) (T.clock + 1) T.most = _
    rw [vtick_one ho hs ⟨u, hud, rfl, hun⟩, filter_key]; rfl
  · rw [if_neg h0, dropTr_no h0]
theorem map_ren (a b : PN) (L : List TE) : (L.map (renE (renP a b))).map keyV = (L.map keyV).map (vren a b) := by
  rw [List.map_map, List.map_map]; rfl
theorem ren_up {a b : PN} (n : PN) (h : a.isPrefixOf n = false) : renP a b n = n := by rw [renP, if_neg (by rw [h]; simp)]
theorem moved_at {L : List TE} {a b : PN} {u : TE} (hu : u ∈ L) (h : a.isPrefixOf u.nm = false) : ∃ e ∈ moveT a b L, e.p = u.p ∧ e.nm = u.nm :=
  ⟨renE (renP a b) u, moveT_mem.2 ⟨u, hu, rfl⟩, rfl, ren_up _ h⟩
theorem view_move {B : Nat} {w : World} {r : Nat} {T : Tr} {p q : List UInt8} (hp : splitE p = 0) (hq : splitE q = 0) (hT : TreeAt B w r T) {w' : World} (h : TreeAt B w' r (moveTr p q T)) : viewT (moveTr p q T) = vnext (.move (splitL p) (splitL q)) (viewT T) := by
  rw [vnext, ← verr_move hp hq]
  by_cases h0 : moveE p q T = 0
  · rw [if_pos h0]
    have hM := h0
    rw [moveE, if_neg (by rw [hp]; simp), if_neg (by rw [hq]; simp)] at hM
    cases hg : getT (splitL p) T.L with
    | none => rw [hg] at hM; cases hM
    | some n =>
      rw [hg] at hM
      dsimp only at hM
      by_cases c1 : splitL p = [] ∨ ((splitL p).length < (splitL q).length ∧ splitL p = (splitL q).take (splitL p).length)
      · rw [if_pos c1] at hM; cases hM
      · rw [if_neg c1] at hM
        have hne : splitL p ≠ [] := fun h => c1 (.inl h)
        by_cases c2 : (getT (splitL q) T.L).isSome = true
        · rw [if_pos c2] at hM; cases hM
        · rw [if_neg c2] at hM
          by_cases c3 : abvE (splitL q) T.L ≠ 0
          · rw [if_pos c3] at hM; exact absurd hM c3
          · have c3 : abvE (splitL q) T.L = 0 := Classical.not_not.1 c3
            have hqne : splitL q ≠ [] := by
              intro hc
              obtain ⟨e, he, _⟩ := hT.root
              rw [hc, he] at c2; exact c2 rfl
            obtain ⟨hnm, hnn⟩ := getT_nm hg
            obtain ⟨u, _, _, hu, _, hun, _, hgu, _⟩ := hT.up hnm (by rw [hnn]; exact hne)
            rw [hnn] at hun hgu
            cases hgd : getT (splitL q).dropLast T.L with
            | none => rw [abvE, hgd] at c3; cases c3
            | some d =>
              obtain ⟨hdm, hdn⟩ := getT_nm hgd
              have hTr : moveTr p q T = { T with clock := T.clock + 1, L := tickT [u.p, d.p] ((T.clock + 1 : Nat) : Int) (moveT (splitL p) (splitL q) T.L) } := by
                rw [moveTr, if_pos h0, hgu, hgd]
              rw [hTr] at h ⊢
              have ho : (ownL (tickT [u.p, d.p] ((T.clock + 1 : Nat) : Int) (moveT (splitL p) (splitL q) T.L))).Nodup := h.own_nod
              rw [own_tickT] at ho
              have hs : SrtT (moveT (splitL p) (splitL q) T.L) := srt_unticks h.srt
              have h1 : (splitL p).isPrefixOf u.nm = false := by
                cases hpre : (splitL p).isPrefixOf u.nm with
                | false => rfl
                | true =>
                  have h1 := (List.isPrefixOf_iff_prefix.1 hpre).length_le
                  rw [hun, List.length_dropLast] at h1
                  have h2 := List.length_pos_iff.2 hne
                  omega
              have h2 : (splitL p).isPrefixOf d.nm = false := by
                cases hpre : (splitL p).isPrefixOf d.nm with
                | false => rfl
                | true =>
                  have k1 := List.isPrefixOf_iff_prefix.1 hpre
                  rw [hdn] at k1
                  have k2 := k1.length_le
                  rw [List.length_dropLast] at k2
                  have k3 := List.length_pos_iff.2 hqne
                  have k4 : splitL p <+: splitL q := k1.trans (List.dropLast_prefix _)
                  exact absurd (.inr ⟨by omega, List.prefix_iff_eq_take.1 k4⟩) c1
              obtain ⟨eu, heu, hep, hen⟩ := moved_at (b := splitL q) hu h1
              obtain ⟨ed, hed, hdp, hdn2⟩ := moved_at (b := splitL q) hdm h2
              show VS.mk ((tickT [u.p, d.p] ((T.clock + 1 : Nat) : Int) (moveT (splitL p) (splitL q) T.L)).map keyV) (T.clock + 1) T.most = _
              rw [vtick_two ho hs ⟨eu, heu, hep, hen.trans hun⟩ ⟨ed, hed, hdp, hdn2.trans hdn⟩, moveT, vsort_map, map_ren]; rfl
  · rw [if_neg h0, moveTr_no h0]
end Go.Proofs.YthcjjekkjbidlaaDoor.Sr
/-
  The closed run of SourceNames, reckoned on views; and what each of its calls leaves.
-/
namespace Go.Proofs.YthcjjekkjbidlaaDoor.Sr
open Go.RowKit Go.Maps Go.WideMaps Go.Proofs.YthcjjekkjbidlaaDoor.Rf Go.Proofs.YthcjjekkjbidlaaDoor.Nm Go.Proofs.YthcjjekkjbidlaaDoor.St

def nmI (i : Nat) : List UInt8 := [97 + UInt8.ofNat (i / 16), 97 + UInt8.ofNat (i % 16)]
def ops : List (VOp × Int) :=
  (List.range 256).map (fun i => (.add [nmI i] 1, 0)) ++ [(.add [[122, 122]] 1, 3), (.move [[97, 97]] [[122, 122]], 0), (.drop [[97, 98]], 0), (.add [[120]] 2, 0)]
  ++ (List.range 15).map (fun i => (.add (List.replicate (i + 2) [120]) 2, 0))
  ++ [(.drop [[97, 99]], 0), (.add [[109]] 2, 0), (.add [[109], [110]] 2, 0), (.move [[120], [120]] [[109], [110], [120]], 10), (.move [[120], [120]] [[109], [120]], 0), (.move [[109], [120]] [[120], [120]], 0), (.has [[122, 122]] 1 2 1, 0),
    (.move [[120], [120]] [[120], [121]], 0), (.move [[120], [121], [120]] [[120], [121], [121]], 0), (.move [[122, 122]] [[120], [122, 122]], 0)]
def V0 : VS := ⟨[([], 2, 1, 0)], 0, 1⟩
def vrun (l : List (VOp × Int)) (V : VS) : VS := l.foldl (fun V o => vnext o.1 V) V
def vat (k : Nat) : VS := vrun (ops.take k) V0
theorem vat_succ {k : Nat} {o : VOp × Int} (h : ops[k]? = some o) : vat (k + 1) = vnext o.1 (vat k) := by
  rw [vat, vat, vrun, vrun, List.take_add_one, h, List.foldl_append]; rfl
/-! ### what lies -/
/-- The tree behind k calls; and a bystander: a block that is none of its own. -/
def NmSt (w0 w : World) (r k : Nat) (S : Nat → Obj → Prop) : Prop := ∃ T, TreeAt w0.heap.size w r T ∧ viewT T = vat k ∧ Below w0.heap.size w0 w ∧ Good k T ∧ ∀ q o, S q o → w.heap[q]? = some o ∧ q ∉ r :: (ownL T.L ++ xobL T.L)
section
variable {w0 w : World} {r k : Nat} {S : Nat → Obj → Prop}
theorem NmSt.below (h : NmSt w0 w r k S) {w' : World} (hb : Below w.heap.size w w') : NmSt w0 w' r k S := by
  obtain ⟨T, h1, h2, h3, h4, h5⟩ := h
  exact ⟨T, h1.below hb, h2, h3.trans (hb.mono h3.size), h4, fun q o hq => ⟨(hb.block q (lt_of_heap (h5 q o hq).1)).trans (h5 q o hq).1, (h5 q o hq).2⟩⟩
theorem NmSt.next {T T' : Tr} {w' : World} {o : VOp × Int} (ho : ops[k]? = some o) (hT : TreeAt w0.heap.size w r T) (hv : viewT T = vat k) (hb : Below w0.heap.size w0 w) (hg : Good k T) (hS : ∀ q o, S q o → w.heap[q]? = some o ∧ q ∉ r :: (ownL T.L ++ xobL T.L)) (hc : CallT w0.heap.size w r T w' T') (hn : viewT T' = vnext o.1 (viewT T)) : NmSt w0 w' r (k + 1) S := by
  refine ⟨T', hc.tree, by rw [hn, hv, vat_succ ho], hb.trans (hc.turn.below (fun x hx => hT.base x ?_) hb.size), ChT.good hT hc.ch hg, fun q o hq => ?_⟩
  · rw [List.mem_cons] at hx ⊢
    exact hx.imp id (fun h => List.mem_append_left _ h)
  · obtain ⟨h1, h2⟩ := hS q o hq
    have h3 := lt_of_heap h1
    rw [List.mem_cons, not_or] at h2
    refine ⟨(hc.turn.block q h3 (fun hx => ?_)).trans h1, fun hx => ?_⟩
    · rw [List.mem_cons] at hx
      exact hx.elim h2.1 (fun h => h2.2 (List.mem_append_left _ h))
    · rw [List.mem_cons] at hx
      rcases hx with hx | hx
      · exact h2.1 hx
      · rcases hc.own q hx with h | h
        · exact h2.2 h
        · omega
theorem NmSt.add {T : Tr} {w1 w' : World} {p : List UInt8} {l : PN} {kd : Nat} {c : Int} {A : XA} {e : Ending} (hck : ∀ {k o}, ops[k]? = some o → verr o.1 (vat k) = o.2) (ho : ops[k]? = some (.add l kd, c)) (hp : splitE p = 0) (hl : splitL p = l) (hA : chkA A = true) (hk : A.node = kd)
    (hT : TreeAt w0.heap.size w r T) (hv : viewT T = vat k) (hb : Below w0.heap.size w0 w) (hg : Good k T) (hS : ∀ q o, S q o → w.heap[q]? = some o ∧ q ∉ r :: (ownL T.L ++ xobL T.L)) (hb1 : Below w.heap.size w w1) (h : AddPost w0.heap.size w1 r T p [] A e w') : e = .returned (.int .i64 c) ∧ NmSt w0 w' r (k + 1) S := by
  obtain ⟨he, T', hc, hno, hyes⟩ := h.call hT hb1 (.inl (by simp)) (splitL_16 p)
  have hE : addE p [] A T = c := by rw [verr_add hp hA (by simp) kd, hl, hv, hck ho]
  have hE2 : verr (.add l kd) (viewT T) = c := by rw [hv]; exact hck ho
  rw [hE] at he hno hyes
  refine ⟨he, NmSt.next ho hT hv hb hg hS hc ?_⟩
  show viewT T' = vnext (.add l kd) (viewT T)
  by_cases h0 : c = 0
  · obtain ⟨n, u, hu, hun, hn, hi, ha, _, ht, hT'⟩ := hyes h0
    have htr := hc.tree
    rw [hT'] at htr ⊢
    rw [vnext, if_pos (hE2.trans h0), view_add hu (by rw [hun, hl]) (by rw [hn, hl]) hi (by rw [ha, hk]) ht htr]
  · rw [hno h0, vnext, if_neg (by rw [hE2]; exact h0)]
theorem NmSt.drop (hck : ∀ {k o}, ops[k]? = some o → verr o.1 (vat k) = o.2) (h : NmSt w0 w r k S) {p : List UInt8} {l : PN} {c : Int} (ho : ops[k]? = some (.drop l, c)) (hp : splitE p = 0) (hl : splitL p = l) (hlen : p.length ≤ 1000) :
    Calls Tryd.prog 11 #[ptr r, .string ⟨p.toArray⟩] w fun e w' => e = .returned (.int .i64 c) ∧ NmSt w0 w' r (k + 1) S := by
  obtain ⟨T, hT, hv, hb, hg, hS⟩ := h
  refine (drop_any w0.heap.size w r T p (by omega) hT).mono ?_
  rintro e w' ⟨he, hc⟩
  have hE : dropE p T = c := by rw [verr_drop hp, hl, hv, hck ho]
  rw [hE] at he
  exact ⟨he, NmSt.next ho hT hv hb hg hS hc (by rw [view_drop hp hT hc.tree, hl])⟩
theorem NmSt.move (hck : ∀ {k o}, ops[k]? = some o → verr o.1 (vat k) = o.2) (h : NmSt w0 w r k S) {p q : List UInt8} {l m : PN} {c : Int} (ho : ops[k]? = some (.move l m, c)) (hp : splitE p = 0) (hl : splitL p = l) (hq : splitE q = 0) (hm : splitL q = m) (hlen : p.length ≤ 1000) (hlen2 : q.length ≤ 1000) (hk : k < 1000) :
    Calls Tryd.prog 18 #[ptr r, .string ⟨p.toArray⟩, .string ⟨q.toArray⟩] w fun e w' => e = .returned (.int .i64 c) ∧ NmSt w0 w' r (k + 1) S := by
  obtain ⟨T, hT, hv, hb, hg, hS⟩ := h
  refine (move_any w0.heap.size w r T p q (by omega) (by omega) hg.deep (by have := hg.len; omega) hT).mono ?_
  rintro e w' ⟨he, hc⟩
  have hE : moveE p q T = c := by rw [verr_move hp hq, hl, hm, hv, hck ho]
  rw [hE] at he
  exact ⟨he, NmSt.next ho hT hv hb hg hS hc (by rw [view_move hp hq hT hc.tree, hl, hm])⟩
theorem NmSt.stat (hck : ∀ {k o}, ops[k]? = some o → verr o.1 (vat k) = o.2) (h : NmSt w0 w r k S) {p : List UInt8} {l : PN} {i : Nat} {t : Int} (ho : ops[k]? = some (.has l 1 i t, 0)) (hp : splitE p = 0) (hl : splitL p = l) (hlen : p.length ≤ 1000) :
    Calls Tryd.prog 9 #[ptr r, .string ⟨p.toArray⟩] w fun e w' => ∃ sz : Int, e = .returned (.tuple #[.agg #[.int .u8 1, .int .i64 sz, .int .u64 (i : Int), .int .i64 t], .int .i64 0]) ∧ Below w.heap.size w w' ∧ NmSt w0 w' r (k + 1) S := by
  have h' := h
  obtain ⟨T, hT, hv, hb, hg, hS⟩ := h
  have h1 : vget l (T.L.map keyV) = some (l, 1, i, t) := by
    have h2 := hck ho
    rw [← hv] at h2
    have h2 : (if vget l (T.L.map keyV) = some (l, 1, i, t) then (0 : Int) else 1) = 0 := h2
    by_cases hc : vget l (T.L.map keyV) = some (l, 1, i, t)
    · exact hc
    · rw [if_neg hc] at h2; cases h2
  rw [vget_map] at h1
  obtain ⟨e, he, hk⟩ := Option.map_eq_some_iff.1 h1
  have k1 : e.at_.node = 1 := congrArg (fun x : VN => x.2.1) hk
  have k2 : e.ino = i := congrArg (fun x : VN => x.2.2.1) hk
  have k3 : e.tick = t := congrArg (fun x : VN => x.2.2.2) hk
  have hf : findN p T.L = some e := by rw [findN, if_pos hp, hl, he]
  have hfe : findE p T.L = 0 := by rw [findE, if_pos hp, hl, he]; rfl
  have hst : (statN p T.L).stat.toArray = #[.int .u8 1, .int .i64 (sizeT e T.L), .int .u64 (i : Int), .int .i64 t] := by
    rw [statN, hf]
    show #[Value.int .u8 (e.at_.node : Int), .int .i64 (sizeT e T.L), .int .u64 (e.ino : Int), .int .i64 e.tick] = _
    rw [k1, k2, k3]; rfl
  refine (stat_any w0.heap.size w r T p (by omega) hT).mono ?_
  rintro ex w' ⟨rfl, hbw⟩
  refine ⟨sizeT e T.L, by rw [hst, hfe], hbw, ?_⟩
  obtain ⟨T2, a1, a2, a3, a4, a5⟩ := h'.below hbw
  exact ⟨T2, a1, by rw [a2, vat_succ ho, vnext_has], a3, a4.mono (by omega), a5⟩
end
end Go.Proofs.YthcjjekkjbidlaaDoor.Sr
