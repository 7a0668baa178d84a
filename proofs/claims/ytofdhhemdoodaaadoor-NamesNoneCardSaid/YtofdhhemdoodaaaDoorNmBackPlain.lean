/-
  Plain facts for the way there and back: a shown text, a path. No program stands in this text.
-/
import Derived.Test.YtofdhhemdoodaaaDoorNmReadPlain
import Derived.Test.YtofdhhemdoodaaaDoorNmRefJoin
namespace Go.Proofs.YtofdhhemdoodaaaDoor.Nm
open Go.RowKit

theorem hd_plain {d : Nat} (h : d < 16) : 32 ≤ (hd d).toNat ∧ (hd d).toNat ≤ 126 := by
  have : ∀ q : Fin 16, 32 ≤ (hd q.1).toNat ∧ (hd q.1).toNat ≤ 126 := by decide
  exact this ⟨d, h⟩
theorem hexF_plain : ∀ (f u : Nat), ∀ x ∈ hexF f u, 32 ≤ x.toNat ∧ x.toNat ≤ 126
  | 0, _ => by simp [hexF]
  | f + 1, u => by
    intro x hx
    by_cases h : u < 16
    · rw [hexF_small _ _ h] at hx; simp at hx; subst hx; exact hd_plain h
    · rw [hexF_step _ _ h] at hx
      rcases List.mem_append.1 hx with h1 | h1
      · exact hexF_plain f _ x h1
      · simp at h1; subst h1; exact hd_plain (Nat.mod_lt _ (by omega))
theorem showP_plain (p : Nat × List UInt8) : ∀ x ∈ showP p, 32 ≤ x.toNat ∧ x.toNat ≤ 126 := by
  intro x hx
  unfold showP at hx
  split at hx
  · simp only [List.mem_append, List.mem_cons, List.not_mem_nil, or_false] at hx
    rcases hx with (⟨rfl | rfl⟩ | hx) | hx
    · decide
    · subst_vars; decide
    · exact hexF_plain _ _ x hx
    · exact hexF_plain _ _ x hx
  · split at hx
    · simp at hx; subst hx; decide
    · split at hx
      · rename_i h; simp at hx; subst hx
        rw [byte_ofNat (by omega)]; exact h
      · simp only [List.mem_append, List.mem_cons, List.not_mem_nil, or_false] at hx
        rcases hx with (⟨rfl | rfl⟩ | hx) | rfl
        · decide
        · subst_vars; decide
        · exact hexF_plain _ _ x hx
        · decide
theorem shown_plain (l : List UInt8) : ∀ x ∈ shown l, 32 ≤ x.toNat ∧ x.toNat ≤ 126 := by
  intro x hx
  obtain ⟨p, _, hp⟩ := List.mem_flatMap.1 hx
  exact showP_plain p x hp

theorem hex_pos (u : Nat) : 1 ≤ (hex u).length := by
  rw [hex]
  by_cases h : u < 16
  · rw [hexF_small _ _ h]; simp
  · rw [hexF_step _ _ h]; simp
theorem showP_ge {l : List UInt8} (hne : l ≠ []) : (dec l).2 ≤ (showP ((dec l).1, l.take (dec l).2)).length := by
  obtain ⟨h1, h2, h3⟩ := dec_width l hne
  unfold showP
  have g1 := hex_pos (((l.take (dec l).2).headD 0).toNat / 16)
  have g2 := hex_pos (((l.take (dec l).2).headD 0).toNat % 16)
  have g3 := hex_pos (dec l).1
  have hw : ∀ h : (dec l).1 < 128, (dec l).2 = 1 := by
    intro h
    have hb : ¬ ((dec l).1 = 65533 ∧ (dec l).2 = 1) := by omega
    obtain ⟨_, h5⟩ := enc_dec l hne hb
    rw [enc_1 h] at h5
    have := congrArg List.length h5
    rw [List.length_take] at this
    simp at this; omega
  split
  · simp only [List.length_append, List.length_cons, List.length_nil]; omega
  · split
    · rename_i h; dsimp only at h; have := hw (by omega); simp; omega
    · split
      · rename_i h; dsimp only at h; have := hw (by omega); simp; omega
      · simp only [List.length_append, List.length_cons, List.length_nil]; omega
theorem shown_ge (l : List UInt8) : l.length ≤ (shown l).length := by
  induction l using seg_induct with
  | h0 => simp
  | h1 l hne ih =>
    rw [shown_cons l hne, List.length_append]
    have h1 := showP_ge hne
    have h2 := dec_width l hne
    rw [List.length_drop] at ih; omega
theorem shown_le (l : List UInt8) : (shown l).length ≤ 14 * l.length := by
  induction l using seg_induct with
  | h0 => simp [shown_nil]
  | h1 l hne ih =>
    rw [shown_cons l hne, List.length_append]
    have h1 := showP_len ((dec l).1, l.take (dec l).2)
    have h2 := dec_width l hne
    rw [List.length_drop] at ih; omega

theorem enc_slash {r : Nat} (hg : goodRune r = true) (h : (47 : UInt8) ∈ enc r) : r = 47 := by
  have key : ∀ n : Nat, n < 256 → 128 ≤ n → (47 : UInt8) ≠ UInt8.ofNat n := by
    intro n h1 h2 e
    have := congrArg UInt8.toNat e
    rw [byte_ofNat h1] at this
    simp at this; omega
  have hr : r ≤ 1114111 := by simp [goodRune] at hg; omega
  by_cases h1 : r < 128
  · rw [enc_1 h1] at h
    simp at h
    have := congrArg UInt8.toNat h
    rw [byte_ofNat (by omega)] at this
    simp at this; omega
  · by_cases h2 : r < 2048
    · rw [enc_2 h1 h2] at h
      simp only [List.mem_cons, List.not_mem_nil, or_false] at h
      rcases h with h | h
      · exact absurd h (key _ (by omega) (by omega))
      · exact absurd h (key _ (by omega) (by omega))
    · by_cases h3 : r < 65536
      · rw [enc_3 hg h2 h3] at h
        simp only [List.mem_cons, List.not_mem_nil, or_false] at h
        rcases h with h | h | h
        · exact absurd h (key _ (by omega) (by omega))
        · exact absurd h (key _ (by omega) (by omega))
        · exact absurd h (key _ (by omega) (by omega))
      · rw [enc_4 hg h3] at h
        simp only [List.mem_cons, List.not_mem_nil, or_false] at h
        rcases h with h | h | h | h
        · exact absurd h (key _ (by omega) (by omega))
        · exact absurd h (key _ (by omega) (by omega))
        · exact absurd h (key _ (by omega) (by omega))
        · exact absurd h (key _ (by omega) (by omega))

theorem chk_noslash {l : List UInt8} (h : chk l = true) : ∀ c ∈ l, c ≠ 47 := by
  intro c hc e
  subst e
  rw [chk, Bool.and_eq_true] at h
  obtain ⟨h1, h2⟩ := h
  have hok : okB l = true := by
    rw [lenFine] at h1
    simp only [Bool.and_eq_true] at h1
    exact h1.1.1.1.1.1
  obtain ⟨he, hg⟩ := encs_runes l hok
  rw [← he] at hc
  obtain ⟨r, hr, hcr⟩ := List.mem_flatMap.1 hc
  have := enc_slash (hg r hr) hcr
  subst this
  obtain ⟨p, hp, hp1⟩ := List.mem_map.1 hr
  rw [runesFine, List.all_eq_true] at h2
  have := h2 p hp
  rw [hp1] at this
  exact absurd this (by decide)
theorem chk_nn {l : List UInt8} (h : chk l = true) : l ≠ [] := by
  intro e; subst e; exact absurd h (by decide)

theorem parts_path : ∀ (ns : List (List UInt8)), ns ≠ [] → (∀ x ∈ ns, ∀ c ∈ x, c ≠ 47) → ∃ t, pathOf ns = 47 :: t ∧ parts t = ns
  | [], h, _ => absurd rfl h
  | [x], _, h => ⟨x, by simp [pathOf], parts_none x (h x (by simp))⟩
  | x :: y :: r, _, h => by
    obtain ⟨t, h1, h2⟩ := parts_path (y :: r) (by simp) (fun z hz => h z (by simp [hz]))
    refine ⟨x ++ 47 :: t, ?_, ?_⟩
    · rw [← h1]; simp [pathOf]
    · rw [parts_hit x t (h x (by simp)), h2]

theorem split_join {ns : List (List UInt8)} {p : List UInt8} (h : joinP ns = some p) : splitP p = some ns := by
  unfold joinP at h
  split at h
  · rename_i hh
    simp only [Bool.and_eq_true, decide_eq_true_eq] at hh
    obtain ⟨h16, hall⟩ := hh
    have e := Option.some.inj h
    by_cases hn : ns = []
    · subst hn
      have : p = [47] := by rw [← e]; rfl
      subst this; rfl
    · have hch := List.all_eq_true.1 hall
      obtain ⟨t, h1, h2⟩ := parts_path ns hn (fun x hx => chk_noslash (hch x hx))
      rw [h1, if_neg (by simp)] at e
      subst e
      have hne : (47 :: t) ≠ [47] := by
        intro e
        have ht : t = [] := by simpa using e
        subst ht
        rw [parts] at h2
        subst h2
        exact absurd rfl (chk_nn (hch [] (by simp)))
      have hcount : (47 :: t).count 47 ≤ 16 := by
        have := parts_count t
        rw [h2] at this
        rw [List.count_cons_self]; omega
      rw [splitP_yes hne ((hasPrefix_one _).2 ⟨t, rfl⟩) hcount (by rw [List.drop_succ_cons, List.drop_zero, h2]; exact hall)]
      rw [List.drop_succ_cons, List.drop_zero, h2]
  · exact absurd h (by simp)

theorem join_split {ns : List (List UInt8)} {p : List UInt8} (h : splitP p = some ns) : joinP ns = some p := by
  by_cases hn : ns = []
  · subst hn
    unfold splitP at h
    split at h
    · rename_i hp; subst hp; rfl
    · split at h
      · exact absurd (Option.some.inj h) (parts_ne _)
      · exact absurd h (by simp)
  · obtain ⟨h1, _, h3, h4⟩ := splitP_path h hn
    have hp : pathOf ns ≠ [] := by
      cases ns with
      | nil => exact absurd rfl hn
      | cons x r => simp [pathOf]
    rw [joinP_yes h4 h3, if_neg hp, ← h1]

theorem join_len {ns : List (List UInt8)} {p : List UInt8} (h : joinP ns = some p) : p.length ≤ 4097 := by
  unfold joinP at h
  split at h
  · rename_i hh
    simp only [Bool.and_eq_true, decide_eq_true_eq] at hh
    obtain ⟨h16, hall⟩ := hh
    have hch := List.all_eq_true.1 hall
    have e := Option.some.inj h
    have hl : ∀ (m : List (List UInt8)), (∀ x ∈ m, chk x = true) → (pathOf m).length ≤ m.length * 256 := by
      intro m
      induction m with
      | nil => simp [pathOf]
      | cons x r ih =>
        intro hx
        have h1 := chk_len (hx x (by simp))
        have h2 := ih (fun y hy => hx y (by simp [hy]))
        simp only [pathOf, List.flatMap_cons, List.length_append, List.length_cons] at h2 ⊢
        omega
    have := hl ns hch
    rw [← e]
    split
    · rw [List.length_singleton]; omega
    · omega
  · exact absurd h (by simp)
end Go.Proofs.YtofdhhemdoodaaaDoor.Nm
