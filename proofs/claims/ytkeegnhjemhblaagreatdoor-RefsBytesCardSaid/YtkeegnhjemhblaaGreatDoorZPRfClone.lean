import Derived.Test.YtkeegnhjemhblaaGreatDoorZPRfBook
import Derived.Lib.SliceRun
set_option linter.unusedSimpArgs false
set_option linter.unusedVariables false
/-
  The contract of slices.Clone at snapshots; a book's Log, Tip.
-/
namespace Go.Proofs.YtkeegnhjemhblaaGreatDoor.Rf
open Go.RowKit Go.Maps Go.WideMaps
variable {X : Spect}

theorem infoEn : (Tryz.prog.info? 84).map (fun i => (i.zero, i.size, i.bytes)) = some (some (.agg ((List.replicate 32 (Value.int .u8 0)) ++ [Value.int .i64 0]).toArray), 33, 40) := by kernel_rfl

theorem row_one {l : List En} : ∀ u ∈ cellsL l, u.oneCell' = true := by
  intro u hu
  obtain ⟨e, _, he⟩ := List.mem_flatMap.1 hu
  rcases List.mem_append.1 he with h | h
  · obtain ⟨b, _, rfl⟩ := List.mem_map.1 h; rfl
  · rw [List.mem_singleton.1 h]; rfl
theorem rowS_form {w : World} {B : Nat} {e : TypeId} {s : Nat} {v : Value} {n : Nat} {xs : List Value} (h : w.ownsRow B e s v n xs) (hn : n ≠ 0) : ∃ g cap, v = .slice (some ⟨g, 0, none⟩) n cap ∧ g < w.heap.size ∧ B ≤ g ∧ ∀ (j : Nat) x, xs[j]? = some x → w.cell? ⟨g, j, none⟩ = some x := by
  obtain ⟨h1, ⟨_, h2⟩ | ⟨g, cap, cur, rfl, hg, hh, _, _, _, ht⟩⟩ := h
  · exact absurd h2 hn
  · refine ⟨g, cap, rfl, lt_of_heap hh, hg, fun j x hj => ?_⟩
    have hjl : j < n * s := by have := (List.getElem?_eq_some_iff.1 hj).1; omega
    rw [cell_of_heap hh]
    have := congrArg (fun l => l[j]?) ht
    rw [List.getElem?_take_of_lt hjl, Array.getElem?_toList, hj] at this
    exact this

set_option maxHeartbeats 2000000 in
set_option maxRecDepth 100000 in
theorem clone_any (B : Nat) (w : World) (v : Value) (l : List En) (h : w.ownsRow B 84 33 v l.length (cellsL l)) (hl : l.length ≤ 5000) (hn : l ≠ []) :
    Calls Tryz.prog 62 #[v] w fun e w' => ∃ v', e = .returned v' ∧ w'.ownsRow w.heap.size 84 33 v' l.length (cellsL l) ∧ Below w.heap.size w w' := by
  have hn0 : l.length ≠ 0 := by simpa using hn
  obtain ⟨i0, hi, hz0, hz1, hz2⟩ := info_parts infoEn
  obtain ⟨g, cap, rfl, hg, _, hc⟩ := rowS_form h hn0
  have HC := Lib.hid hc
  have hlen := h.1
  have HL := Lib.hid hlen
  have q22 : ∀ (w : World) (a : Option Addr) (n c n' c' : Nat), (binOp .eql 96 (.slice a n c) (.slice none n' c')).run Tryz.prog w = .ok (.bool a.isNone) w := fun w a n c n' c' => Lib.run_eql_slice_nil w _ _ a n c n' c' Tryz.underlying96
  clear h hc hlen hn
  go_enter Tryz.func62, Tryz.ntmps62
  go_wp2_with (at_builtin; refine wpList_append_own_at _ rfl _ _ 96 rfl w.heap.size 84 i0 _ 33 40 Tryz.underlying96 hi hz0 hz1 hz2 rfl (by decide) _ _ _ rfl (World.ownsRow_made w #[] 0 (Nat.le_refl _) (Nat.zero_le _) rfl) ⟨g, 0, none⟩ l.length cap (cellsL l) rfl HL.out ?d2 row_one ?d3 ?d4 ?d5 ?_)
  case d2 =>
    intro j u hj
    rw [Addr.add_lit, Nat.zero_add]
    exact Lib.cell?_alloc_some _ (HC.out j u hj)
  case d3 => unfold maxLen; omega
  case d4 => omega
  case d5 => simp
  intro v' w1 hown hgrow hnil hat
  have HO := Lib.hid hown; have HG := Lib.hid hgrow
  clear hown hgrow hnil hat
  go_wp2
  go_ret
  refine ⟨v', rfl, by simpa using HO.out, ?_⟩
  exact ((Below.refl _ w).alloc (Nat.le_refl _) _).grown HG.out (by simp) (by intro k hk; simp [Value.ownBlock] at hk; omega)

set_option maxRecDepth 100000 in
theorem clone_nil (w : World) :
    Calls Tryz.prog 62 #[.slice none 0 0] w fun e w' => e = .returned (.slice none 0 0) ∧ w' = w := by
  have q22 : ∀ (w : World) (a : Option Addr) (n c n' c' : Nat), (binOp .eql 96 (.slice a n c) (.slice none n' c')).run Tryz.prog w = .ok (.bool a.isNone) w := fun w a n c n' c' => Lib.run_eql_slice_nil w _ _ a n c n' c' Tryz.underlying96
  go_enter Tryz.func62, Tryz.ntmps62
  go_wp2
  go_ret
  exact ⟨rfl, rfl⟩

/-- A branch of a book: its slice and its snapshots. -/
theorem BookAt.row {B : Nat} {w : World} {g b : Nat} {Z : BM} (h : BookAt X B w g b Z) {k : List UInt8} {p : Value × List En} (hk : getM Z k = some p) : w.ownsRow B 84 33 p.1 p.2.length (cellsL p.2) := h.each _ (getM_mem hk)
theorem OkB.row {Z : BM} (h : OkB (plainB Z)) {k : List UInt8} {p : Value × List En} (hk : getM Z k = some p) : k.length ≤ 255 ∧ p.2 ≠ [] ∧ p.2.length ≤ 4096 ∧ (∀ e ∈ p.2, e.c.length = 32 ∧ 0 ≤ e.t ∧ e.t ≤ 1099511627776) := by
  have := plain_mem (getM_mem hk)
  exact ⟨h.keys _ this, h.ne _ this, h.len _ this, h.ent _ this⟩

/-- What Log leaves. -/
def LogPost (w : World) (o : Option (Value × List En)) (e : Ending) (w' : World) : Prop :=
  Below w.heap.size w w' ∧ match o with
  | none => e = .returned (.tuple #[.slice none 0 0, .int .i64 6])
  | some p => ∃ v', e = .returned (.tuple #[v', .int .i64 0]) ∧ w'.ownsRow w.heap.size 84 33 v' p.2.length (cellsL p.2)

set_option maxHeartbeats 2000000 in
set_option maxRecDepth 100000 in
theorem bookLog_any (B : Nat) (w : World) (g b : Nat) (Z : BM) (S : ByteArray) (hS : S.size ≤ maxLen) (h : BookAt X B w g b Z) (ok : OkB (plainB Z)) :
    Calls Tryz.prog 51 #[ptr g, .string S] w (LogPost w (getM Z S.data.toList)) := by
  have K := Lib.hid (log_any B w g b Z S hS h)
  have HR := Lib.hid (fun p (hp : getM Z S.data.toList = some p) => h.row hp)
  have HO := Lib.hid (fun p (hp : getM Z S.data.toList = some p) => ok.row hp)
  clear h ok
  unfold ptr at *
  go_enter Tryz.func51, Tryz.ntmps51
  go_wp2_with fail
  refine K.out.mono ?_
  rintro e w1 ⟨rfl, rfl⟩
  unfold logV
  cases hg : getM Z S.data.toList with
  | none =>
    have C := Lib.hid (clone_nil w1)
    have HGG := Lib.hid hg
    clear hg K
    go_wp2_with fail
    refine C.out.mono ?_
    rintro e w2 ⟨rfl, rfl⟩
    go_wp2
    go_ret2
    exact ⟨Below.refl _ _, by rw [HGG.out]; rfl⟩
  | some p =>
    have C := Lib.hid (clone_any B w1 p.1 p.2 (HR.out p hg) (by have := (HO.out p hg).2.2.1; omega) (HO.out p hg).2.1)
    have HGG := Lib.hid hg
    clear hg K HR HO
    go_wp2_with fail
    refine C.out.mono ?_
    rintro e w2 ⟨v', rfl, ho, hb⟩
    have H1 := Lib.hid ho; have H2 := Lib.hid hb
    clear ho hb
    go_wp2
    go_ret2
    exact ⟨H2.out, by rw [HGG.out]; exact ⟨v', rfl, H1.out⟩⟩
end Go.Proofs.YtkeegnhjemhblaaGreatDoor.Rf
