/-
  slices.Clone at the rows of the disk: bytes, changes.
-/
import Derived.Test.YtcfdfpjemonhoaaDkRestart
import Derived.Lib.SliceRun
namespace Go.Proofs.Ytcfdfpjemonhoaa.Dk
open Go.RowKit Go.Maps Go.WideMaps

/-- What a copy of a row leaves. -/
def ClonePost (w : World) (e : TypeId) (v : Value) (n : Nat) (xs : List Value) (en : Ending) (w' : World) : Prop := ∃ v', en = .returned v' ∧ w'.ownsRow w.heap.size e 1 v' n xs ∧ (v' = .slice none 0 0 ↔ v = .slice none 0 0) ∧ Below w.heap.size w w'

theorem eql_nil_b (w : World) (a : Option Addr) (n c n' c' : Nat) : (binOp .eql 69 (.slice a n c) (.slice none n' c')).run Try.prog w = .ok (.bool a.isNone) w := Lib.run_eql_slice_nil w _ _ a n c n' c' Try.underlying69
theorem eql_nil_c (w : World) (a : Option Addr) (n c n' c' : Nat) : (binOp .eql 61 (.slice a n c) (.slice none n' c')).run Try.prog w = .ok (.bool a.isNone) w := Lib.run_eql_slice_nil w _ _ a n c n' c' Try.underlying61

set_option maxHeartbeats 2000000 in
set_option maxRecDepth 100000 in
theorem cloneBytes (w : World) (B : Nat) (a : Option Addr) (n c : Nat) (xs : List Value) (h : w.ownsRow B 5 1 (.slice a n c) n xs) (h1 : ∀ u ∈ xs, u.oneCell' = true) (hn : n ≤ 17592186044416) :
    Calls Try.prog 49 #[.slice a n c] w (ClonePost w 5 (.slice a n c) n xs) := by
  obtain ⟨i0, hi, hz0, hz1, hz2⟩ := info_parts infoByte
  obtain ⟨hl, ⟨h2, h3⟩ | ⟨g, cap, cur, h2, hg, hh, h4, h5, h6, h7⟩⟩ := h
  · injection h2 with h2 h8 h9
    subst h2; subst h8; subst h9
    have hx : xs = [] := List.length_eq_zero_iff.1 (by omega)
    subst hx
    have q22 := eql_nil_b
    go_enter Try.func49, Try.ntmps49
    go_wp2
    go_ret
    exact ⟨_, rfl, ⟨rfl, .inl ⟨rfl, rfl⟩⟩, by simp, Below.refl _ _⟩
  · injection h2 with h2 _ h9
    subst h2; subst h9
    have HC : Hid (∀ j u, xs[j]? = some u → w.cell? ⟨g, j, none⟩ = some u) := Lib.hid (fun j u hj => by
      have hjl : j < n := by have := (List.getElem?_eq_some_iff.1 hj).1; omega
      rw [cell_of_heap hh]
      have := congrArg (fun l => l[j]?) h7
      simp only [Nat.mul_one] at this
      rw [List.getElem?_take_of_lt hjl, Array.getElem?_toList, hj] at this
      exact this)
    have hgl : g < w.heap.size := lt_of_heap hh
    clear hh h7 h6
    have q22 := eql_nil_b
    go_enter Try.func49, Try.ntmps49
    go_wp2_with (at_builtin; refine wpList_append_own _ rfl _ _ 69 rfl w.heap.size 5 i0 (.int .u8 0) 1 1 Try.underlying69 hi hz0 hz1 hz2 rfl (by decide) _ _ _ rfl (World.ownsRow_made w #[] 0 (Nat.le_refl _) (Nat.zero_le _) rfl) ⟨g, 0, none⟩ n c xs rfl hl ?qc2 ?qc3 ?qc4 ?qc5 ?qc6 ?_)
    case qc2 =>
      intro j u hj
      exact HC.out j u hj
    case qc3 => exact h1
    case qc4 => unfold maxLen; omega
    case qc5 => omega
    intro v' w1 hown hgrow hnil
    go_wp2
    go_ret
    refine ⟨v', rfl, by simpa using hown, ?_, ?_⟩
    · simpa using hnil
    · exact ((Below.refl _ w).alloc (Nat.le_refl _) _).grown hgrow (by simp) (by intro k hk; simp [Value.ownBlock] at hk; omega)

set_option maxHeartbeats 2000000 in
set_option maxRecDepth 100000 in
theorem cloneChanges (w : World) (B : Nat) (a : Option Addr) (n c : Nat) (xs : List Value) (h : w.ownsRow B 83 1 (.slice a n c) n xs) (h1 : ∀ u ∈ xs, u.oneCell' = true) (hn : n ≤ 17592186044416) :
    Calls Try.prog 50 #[.slice a n c] w (ClonePost w 83 (.slice a n c) n xs) := by
  obtain ⟨i0, hi, hz0, hz1, hz2⟩ := info_parts infoChange
  obtain ⟨hl, ⟨h2, h3⟩ | ⟨g, cap, cur, h2, hg, hh, h4, h5, h6, h7⟩⟩ := h
  · injection h2 with h2 h8 h9
    subst h2; subst h8; subst h9
    have hx : xs = [] := List.length_eq_zero_iff.1 (by omega)
    subst hx
    have q22 := eql_nil_c
    go_enter Try.func50, Try.ntmps50
    go_wp2
    go_ret
    exact ⟨_, rfl, ⟨rfl, .inl ⟨rfl, rfl⟩⟩, by simp, Below.refl _ _⟩
  · injection h2 with h2 _ h9
    subst h2; subst h9
    have HC : Hid (∀ j u, xs[j]? = some u → w.cell? ⟨g, j, none⟩ = some u) := Lib.hid (fun j u hj => by
      have hjl : j < n := by have := (List.getElem?_eq_some_iff.1 hj).1; omega
      rw [cell_of_heap hh]
      have := congrArg (fun l => l[j]?) h7
      simp only [Nat.mul_one] at this
      rw [List.getElem?_take_of_lt hjl, Array.getElem?_toList, hj] at this
      exact this)
    have hgl : g < w.heap.size := lt_of_heap hh
    clear hh h7 h6
    have q22 := eql_nil_c
    go_enter Try.func50, Try.ntmps50
    go_wp2_with (at_builtin; refine wpList_append_own _ rfl _ _ 61 rfl w.heap.size 83 i0 (.agg #[.nilFunc]) 1 8 Try.underlying61 hi hz0 hz1 hz2 rfl (by decide) _ _ _ rfl (World.ownsRow_made w #[] 0 (Nat.le_refl _) (Nat.zero_le _) rfl) ⟨g, 0, none⟩ n c xs rfl hl ?qc2 ?qc3 ?qc4 ?qc5 ?qc6 ?_)
    case qc2 =>
      intro j u hj
      exact HC.out j u hj
    case qc3 => exact h1
    case qc4 => unfold maxLen; omega
    case qc5 => omega
    intro v' w1 hown hgrow hnil
    go_wp2
    go_ret
    refine ⟨v', rfl, by simpa using hown, ?_, ?_⟩
    · simpa using hnil
    · exact ((Below.refl _ w).alloc (Nat.le_refl _) _).grown hgrow (by simp) (by intro k hk; simp [Value.ownBlock] at hk; omega)
end Go.Proofs.Ytcfdfpjemonhoaa.Dk
