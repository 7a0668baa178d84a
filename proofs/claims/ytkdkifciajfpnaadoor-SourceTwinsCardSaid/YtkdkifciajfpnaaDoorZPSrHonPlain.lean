import Derived.Test.YtkdkifciajfpnaaDoorZPSrChanged
import Derived.Test.YtkdkifciajfpnaaDoorZPNmCodec
set_option linter.unusedSimpArgs false
set_option linter.unusedVariables false
/-
  The plain law of StatixHonest: what is entered tells what a file was.
-/
namespace Go.Proofs.YtkdkifciajfpnaaDoor.Sr
open Go.RowKit Go.Maps Go.WideMaps Go.Proofs.YtkdkifciajfpnaaDoor.Rf Go.Proofs.YtkdkifciajfpnaaDoor.Nm Go.Proofs.YtkdkifciajfpnaaDoor.St

/-! ### a node's path, read again -/
theorem enc_no47 (r : Nat) (hg : goodRune r = true) (h : r ≠ 47) : ∀ c ∈ enc r, c ≠ 47 := by
  have hg' := hg
  simp only [goodRune, Bool.or_eq_true, Bool.and_eq_true, decide_eq_true_eq] at hg'
  have key : ∀ n, n < 256 → n ≠ 47 → UInt8.ofNat n ≠ 47 := fun n h1 h2 e => by
    have := congrArg UInt8.toNat e
    rw [byte_ofNat h1] at this; exact h2 this
  by_cases a1 : r < 128
  · rw [enc_1 a1]; intro c hc; simp only [List.mem_singleton] at hc; subst hc; exact key _ (by omega) h
  by_cases a2 : r < 2048
  · rw [enc_2 a1 a2]; intro c hc; simp only [List.mem_cons, List.not_mem_nil, or_false] at hc
    rcases hc with rfl | rfl <;> exact key _ (by omega) (by omega)
  by_cases a3 : r < 65536
  · rw [enc_3 hg a2 a3]; intro c hc; simp only [List.mem_cons, List.not_mem_nil, or_false] at hc
    rcases hc with rfl | rfl | rfl <;> exact key _ (by omega) (by omega)
  · rw [enc_4 hg a3]; intro c hc; simp only [List.mem_cons, List.not_mem_nil, or_false] at hc
    rcases hc with rfl | rfl | rfl | rfl <;> exact key _ (by omega) (by omega)
theorem fine_slash {a : List UInt8} (hok : okB a = true) (h : runesFine a = true) : (47 : UInt8) ∉ a := by
  intro hc
  obtain ⟨h1, h2⟩ := encs_runes a hok
  rw [← h1, encs, List.mem_flatMap] at hc
  obtain ⟨r, hr, hc⟩ := hc
  have hf : fine r = true := by
    obtain ⟨q, hq, rfl⟩ := List.mem_map.1 hr
    exact List.all_eq_true.1 h q hq
  have h47 : r ≠ 47 := by
    rintro rfl
    cases hf
  exact enc_no47 r (h2 r hr) h47 47 hc rfl
theorem inos_inj {L : List TE} (h : L.Pairwise fun a b => a.ino ≠ b.ino) {a b : TE} (ha : a ∈ L) (hb : b ∈ L) (he : a.ino = b.ino) : a = b := by
  induction L with
  | nil => cases ha
  | cons y r ih =>
    obtain ⟨h1, h2⟩ := List.pairwise_cons.1 h
    rcases List.mem_cons.1 ha with ha | ha <;> rcases List.mem_cons.1 hb with hb | hb
    · rw [ha, hb]
    · exact absurd (by rw [← ha]; exact he) (h1 b hb)
    · exact absurd (by rw [← hb]; exact he.symm) (h1 a ha)
    · exact ih h2 ha hb
theorem chk_slash {a : List UInt8} (h : chk a = true) : ∀ c ∈ a, c ≠ 47 := by
  intro c hc h47
  subst h47
  simp only [chk, Bool.and_eq_true, lenFine] at h
  have h2 := h.2
  have hok : okB a = true := h.1.1.1.1.1.1
  exact absurd hc (fine_slash hok h2)
theorem parts_path : ∀ {n : PN}, n ≠ [] → (∀ s ∈ n, chk s = true) → parts ((pathOf n).drop 1) = n
  | [], h, _ => absurd rfl h
  | [a], _, h => by
    have h1 := chk_slash (h a (by simp))
    rw [pathOf, List.flatMap_cons, List.flatMap_nil, List.append_nil, List.drop_succ_cons, List.drop_zero]
    exact parts_none a h1
  | a :: b :: r, _, h => by
    have h1 := chk_slash (h a (by simp))
    have ih := parts_path (n := b :: r) (by simp) (fun s hs => h s (List.mem_cons_of_mem _ hs))
    have e : (pathOf (a :: b :: r)).drop 1 = a ++ 47 :: ((pathOf (b :: r)).drop 1) := by
      simp [pathOf, List.flatMap_cons]
    rw [e, parts_hit _ _ h1, ih]
theorem path_count : ∀ {n : PN}, (∀ s ∈ n, chk s = true) → (pathOf n).count 47 = n.length
  | [], _ => rfl
  | a :: r, h => by
    have h1 := chk_slash (h a (by simp))
    have ih := path_count (n := r) (fun s hs => h s (List.mem_cons_of_mem _ hs))
    rw [pathOf] at ih ⊢
    rw [List.flatMap_cons, List.count_append, List.count_cons_self, ih, List.count_eq_zero.2 (fun hc => h1 47 hc rfl), List.length_cons]
    omega
theorem split_path {n : PN} (hl : n.length ≤ 16) (h : ∀ s ∈ n, chk s = true) : splitP (pathN n) = some n := by
  cases n with
  | nil => rfl
  | cons a r =>
    have hne : pathOf (a :: r) ≠ [] := by simp [pathOf, List.flatMap_cons]
    rw [pathN, if_neg hne]
    have h47 : pathOf (a :: r) ≠ [47] := by
      have ha := (chk_le (h a (by simp))).2
      intro he
      rw [pathOf, List.flatMap_cons] at he
      simp at he
      exact ha he.1
    rw [splitP, if_neg h47, if_pos]
    · rw [parts_path (by simp) h]
    · rw [parts_path (by simp) h, path_count h]
      simp only [Bool.and_eq_true, decide_eq_true_eq]
      refine ⟨⟨(hasPrefix_one _).2 ⟨a ++ pathOf r, by simp [pathOf, List.flatMap_cons]⟩, hl⟩, List.all_eq_true.2 h⟩
theorem Good.split {k : Nat} {T : Tr} (h : Good k T) {e : TE} (he : e ∈ T.L) : splitE (pathN e.nm) = 0 ∧ splitL (pathN e.nm) = e.nm := by
  have := split_path (h.deep e he) (h.names e he)
  rw [splitE, splitL, this]; exact ⟨rfl, rfl⟩

/-! ### what the law keeps -/
/-- The entries, the bytes kept beside them, the numbers kept beside them. -/
structure HonRel (T : Tr) (X : List SE) (D : MV (List UInt8)) (K : MV (Nat × Int)) : Prop where
  srt : Srt X
  keyD : ∀ p, (getM D p).isSome = (getL p X).isSome
  ent : ∀ e ∈ X, ∃ b, getM D e.path = some b ∧ getM K e.path = some (e.ino, e.tick) ∧ e.node = 1 ∧ e.size = (b.length : Int) ∧ e.ino ≤ T.most ∧ e.tick ≤ (T.clock : Int) ∧ ∀ x ∈ T.L, x.ino = e.ino → x.tick = e.tick → x.data = b ∧ x.at_.node = 1
theorem HonRel.hist {T T' : Tr} {X : List SE} {D : MV (List UInt8)} {K : MV (Nat × Int)} (h : HonRel T X D K) (hh : Hist T T') : HonRel T' X D K := by
  refine ⟨h.srt, h.keyD, fun e he => ?_⟩
  obtain ⟨b, h1, h2, h3, h4, h5, h6, h7⟩ := h.ent e he
  refine ⟨b, h1, h2, h3, h4, Nat.le_trans h5 hh.most, Int.le_trans h6 (by have := hh.clock; omega), fun x' hx' hi ht => ?_⟩
  rcases hh.node x' hx' with ⟨x, hx, e1, e2, e3, e4⟩ | ⟨e1, _⟩
  · have := h7 x hx (by rw [← e1, hi]) (by rw [← e4, ht])
    rw [e2, e3]; exact this
  · rw [e1] at ht; omega
theorem HonRel.nil (T : Tr) : HonRel T [] [] [] := ⟨List.Pairwise.nil, fun _ => rfl, fun _ h => by cases h⟩
end Go.Proofs.YtkdkifciajfpnaaDoor.Sr
/-
  The plain law of SourceHonest: what a node was ahead of a call; the names in a folder as paths tell them. No walk stands in this text.
-/
namespace Go.Proofs.YtkdkifciajfpnaaDoor.Sr
open Go.RowKit Go.Maps Go.WideMaps Go.Proofs.YtkdkifciajfpnaaDoor.Rf Go.Proofs.YtkdkifciajfpnaaDoor.Nm Go.Proofs.YtkdkifciajfpnaaDoor.St

theorem tickT_map (c : Int) : ∀ (qs : List Nat) (L : List TE), tickT qs c L = L.map fun x => if x.p ∈ qs then { x with tick := c } else x
  | [], L => by
    show L = _
    simp
  | q :: r, L => by
    show tickT r c (tick1 q c L) = _
    rw [tickT_map c r, tick1, List.map_map]
    refine List.map_congr_left (fun x _ => ?_)
    show (if (if x.p = q then ({ x with tick := c } : TE) else x).p ∈ r then _ else _) = _
    by_cases h : x.p = q
    · simp [h]
    · simp [h]
theorem kids_tickT (c : Int) (qs : List Nat) (L : List TE) (n : PN) : kidsT (tickT qs c L) n = kidsT L n := by
  rw [tickT_map]
  refine kidsT_map (fun e _ => ?_) (fun e _ => ?_) n <;> (split <;> rfl)
/-- What each node was ahead of a call. -/
def Was (T T' : Tr) : Prop :=
  ∀ x' ∈ T'.L, (∃ x ∈ T.L, x'.ino = x.ino ∧ x'.data = x.data ∧ x'.at_ = x.at_ ∧ x'.tick = x.tick ∧ kidsT T'.L x'.nm = kidsT T.L x.nm) ∨
    (x'.tick = ((T.clock + 1 : Nat) : Int) ∧ T'.clock = T.clock + 1 ∧ ((∃ x ∈ T.L, x'.ino = x.ino) ∨ x'.ino = T.most + 1))
theorem ChT.was {B : Nat} {w : World} {r : Nat} {T T' : Tr} (hT : TreeAt B w r T) (h : ChT T T') : Was T T' := by
  intro x' hx'
  cases h with
  | same => exact .inl ⟨x', hx', rfl, rfl, rfl, rfl, rfl⟩
  | add n u hu hun hno hi ht hc hd ha hnm =>
    have hk := kids_tickT ((T.clock + 1 : Nat) : Int) [n.p, u.p] (insT n T.L)
    have hx2 : x' ∈ tickT [n.p, u.p] ((T.clock + 1 : Nat) : Int) (insT n T.L) := hx'
    show (∃ x ∈ T.L, _ ∧ _ ∧ _ ∧ _ ∧ kidsT (tickT [n.p, u.p] _ (insT n T.L)) x'.nm = _) ∨ _
    rw [hk]
    rw [tickT_map] at hx2
    obtain ⟨y, hy, rfl⟩ := List.mem_map.1 hx2
    by_cases hq : y.p ∈ [n.p, u.p]
    · rw [if_pos hq]
      refine .inr ⟨rfl, rfl, ?_⟩
      rcases mem_insT.1 hy with rfl | hy
      · exact .inr hi
      · exact .inl ⟨y, hy, rfl⟩
    · rw [if_neg hq]
      have hyT : y ∈ T.L := by
        rcases mem_insT.1 hy with rfl | hy
        · exact absurd (by simp) hq
        · exact hy
      refine .inl ⟨y, hyT, rfl, rfl, rfl, rfl, kids_put_other (fun s hs => ?_)⟩
      have hyu : y.nm = u.nm := by rw [hun.2, hs]; simp
      have := srtT_inj hT.srt hyT hu hyu
      exact hq (by rw [this]; simp)
  | upd n n' hn hs hc hd ha =>
    have hinj : ∀ x ∈ T.L, x.p = n.p → x = n := fun x hx hxp => hT.p_inj hx hn hxp
    have hf := updT_facts (e' := n') hinj hs.1 hs.2.2.1 hs.2.2.2.1
    have hk : ∀ m, kidsT (tickT [n.p] ((T.clock + 1 : Nat) : Int) (updT n' T.L)) m = kidsT T.L m := fun m => by
      rw [kids_tickT, updT]
      exact kidsT_map (fun e he => (hf e he).1) (fun e he => (hf e he).2.1) m
    have hx2 : x' ∈ tickT [n.p] ((T.clock + 1 : Nat) : Int) (updT n' T.L) := hx'
    show (∃ x ∈ T.L, _ ∧ _ ∧ _ ∧ _ ∧ kidsT (tickT [n.p] _ (updT n' T.L)) x'.nm = _) ∨ _
    rw [hk]
    rw [tickT_map] at hx2
    obtain ⟨y, hy, rfl⟩ := List.mem_map.1 hx2
    obtain ⟨x, hx, rfl⟩ := List.mem_map.1 hy
    by_cases hp : x.p = n'.p
    · rw [if_pos hp, if_pos (by rw [hs.2.2.1]; simp)]
      exact .inr ⟨rfl, rfl, .inl ⟨n, hn, hs.2.1⟩⟩
    · rw [if_neg hp, if_neg (by rw [← hs.2.2.1]; simpa using hp)]
      exact .inl ⟨x, hx, rfl, rfl, rfl, rfl, rfl⟩
  | del n u hn hne hu hun hc =>
    have hx2 : x' ∈ tickT [u.p] ((T.clock + 1 : Nat) : Int) (dropT n.nm T.L) := hx'
    show (∃ x ∈ T.L, _ ∧ _ ∧ _ ∧ _ ∧ kidsT (tickT [u.p] _ (dropT n.nm T.L)) x'.nm = _) ∨ _
    rw [kids_tickT]
    rw [tickT_map] at hx2
    obtain ⟨y, hy, rfl⟩ := List.mem_map.1 hx2
    obtain ⟨hyT, hyn⟩ := dropT_mem.1 hy
    by_cases hq : y.p ∈ [u.p]
    · rw [if_pos hq]
      exact .inr ⟨rfl, rfl, .inl ⟨y, hyT, rfl⟩⟩
    · rw [if_neg hq]
      refine .inl ⟨y, hyT, rfl, rfl, rfl, rfl, ?_⟩
      have hnn := (List.dropLast_concat_getLast hne).symm
      rw [hnn] at hyn ⊢
      rw [kids_drop hT.srt hyn, if_neg]
      intro hy0
      have := srtT_inj hT.srt hyT hu (hy0.trans hun.symm)
      exact hq (by rw [this]; simp)
  | move a0 b0 sa sb n u d k hu hun hc hb hnm =>
    have hx2 : x' ∈ tickT [u.p, d.p] ((T.clock + 1 : Nat) : Int) (moveT (a0 ++ [sa]) (b0 ++ [sb]) T.L) := hx'
    show (∃ x ∈ T.L, _ ∧ _ ∧ _ ∧ _ ∧ kidsT (tickT [u.p, d.p] _ (moveT (a0 ++ [sa]) (b0 ++ [sb]) T.L)) x'.nm = _) ∨ _
    rw [kids_tickT]
    rw [tickT_map] at hx2
    obtain ⟨y, hy, rfl⟩ := List.mem_map.1 hx2
    obtain ⟨x, hx, rfl⟩ := moveT_mem.1 hy
    have hpar := hT.parT
    by_cases hq : (renE (renP (a0 ++ [sa]) (b0 ++ [sb])) x).p ∈ [u.p, d.p]
    · rw [if_pos hq]
      exact .inr ⟨rfl, rfl, .inl ⟨x, hx, rfl⟩⟩
    · rw [if_neg hq]
      refine .inl ⟨x, hx, rfl, rfl, rfl, rfl, ?_⟩
      show kidsT _ (renP _ _ x.nm) = _
      by_cases h3 : (a0 ++ [sa]) <+: x.nm
      · obtain ⟨t, ht⟩ := h3
        rw [← ht, renP_in, kids_moved k hT.srt hpar]
      · have h1 : x.nm ≠ b0 := fun h => hq (by
          have := srtT_inj hT.srt hx k.dmem (h.trans k.dname.symm)
          show x.p ∈ _
          rw [this]; simp)
        have h2 : x.nm ≠ a0 := fun h => hq (by
          have := srtT_inj hT.srt hx hu (h.trans hun.symm)
          show x.p ∈ _
          rw [this]; simp)
        rw [renP_out h3, kids_stay k hT.srt hpar hx h3, kidM, if_neg h1, if_neg h2]

/-! ### the names in a folder, as paths tell them -/
end Go.Proofs.YtkdkifciajfpnaaDoor.Sr
/-
  The contract of the statements' awake: a file entered, then written.
-/
namespace Go.Proofs.YtkdkifciajfpnaaDoor.Sr
open Go.RowKit Go.Maps Go.WideMaps Go.Proofs.YtkdkifciajfpnaaDoor.Rf Go.Proofs.YtkdkifciajfpnaaDoor.Nm Go.Proofs.YtkdkifciajfpnaaDoor.St

def p0 : List UInt8 := [47, 102]
def e0 : SE := ⟨p0, 1, 1, 2, 1, 1, List.replicate 32 0⟩
def r1 (p m : Nat) : TE := { rootE p m with tick := 1 }
def n1 (q : Nat) (m : Option Nat) (v : Value) : TE := ⟨[[102]], 2, 1, asFile zeroA, [97], q, m, v⟩
def n2 (q : Nat) (m : Option Nat) (v : Value) : TE := ⟨[[102]], 2, 2, asFile zeroA, [98], q, m, v⟩
def t1 (p m q : Nat) (mm : Option Nat) (v : Value) : Tr := ⟨[r1 p m, n1 q mm v], 1, 2, 0⟩
def t2 (p m q : Nat) (mm : Option Nat) (v : Value) : Tr := ⟨[r1 p m, n2 q mm v], 2, 2, 0⟩
end Go.Proofs.YtkdkifciajfpnaaDoor.Sr
