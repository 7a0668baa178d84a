/-
  The contract of the law's do: a call of a disk, whatever it answers.
-/
import Derived.Test.YtcfdfpjemonhoaaDkRead
namespace Go.Proofs.Ytcfdfpjemonhoaa.Dk
open Go.RowKit Go.Maps Go.WideMaps

/-- A call, as the law's list holds it. -/
structure OpV where
  kind : Int
  name : ByteArray
  other : ByteArray
  data : ByteArray
  a : Int

/-- What a call makes of a disk. -/
def doN (D : Dk) (x : OpV) : Dk :=
  if x.kind = 0 then (create D x.name.data.toList).2
  else if x.kind = 1 then (append D x.name.data.toList x.data.data.toList).2
  else if x.kind = 4 then (sync D x.name.data.toList).2
  else if x.kind = 5 then (syncDir D).2
  else if x.kind = 6 then (rename D x.name.data.toList x.other.data.toList).2
  else if x.kind = 7 then (remove D x.name.data.toList).2
  else if x.kind = 12 then (corrupt D x.name.data.toList x.a x.data.data.toList).2
  else D

def opV (x : OpV) (b c : Int) (ka : Option Addr) (kn kc : Nat) : Value := .agg #[.int .i64 x.kind, .string x.name, .string x.other, .string x.data, .int .i64 x.a, .int .i64 b, .int .i64 c, .slice ka kn kc]

set_option maxHeartbeats 8000000 in
set_option maxRecDepth 100000 in
theorem do_any (B : Nat) (w : World) (Y : Lay) (D : Dk) (x : OpV) (b c : Int) (ka : Option Addr) (kn kc : Nat) (hN : x.name.size ≤ maxLen) (hM : x.other.size ≤ maxLen) (hT : x.data.size ≤ maxLen) (h : DiskAt B w Y D) (ok : Ok D) (hc : D.calls < 1000000) (hf : D.files.length < 1000000) :
    Calls Try.prog 15 #[ptr Y.g, opV x b c ka kn kc] w (OpPost B Y w (.tuple #[]) (doN D x)) := by
  obtain ⟨k, N, M, T, a⟩ := x
  dsimp only at hN hM hT
  have hb0 : Below w.heap.size w (w.alloc (.cells #[.int .i64 k, .string N, .string M, .string T, .int .i64 a, .int .i64 b, .int .i64 c, .slice ka kn kc] 34)) := (Below.refl _ _).alloc (Nat.le_refl _) _
  have h0 := h.below hb0
  have HB := Lib.hid hb0
  unfold opV
  by_cases q0 : k = 0
  · subst q0
    have e1 : doN D ⟨0, N, M, T, a⟩ = (create D N.data.toList).2 := by unfold doN; dsimp only; rw [if_pos rfl]
    rw [e1]
    have CO := Lib.hid (create_any B _ Y D N hN h0 ok hc hf)
    clear e1 h h0 hb0 ok
    unfold ptr at *
    go_enter Try.func15, Try.ntmps15
    go_wp2_with (go_at_call 8; refine CO.out.mono ?_; rintro e w1 ⟨Y2, rfl, h2, ht2, hb2, hg2⟩; have H2 := Lib.hid h2; have HT2 := Lib.hid ht2; have HB2 := Lib.hid hb2; have HG2 := Lib.hid hg2; clear h2 ht2 hb2 hg2)
    go_end0
    have P2 : OpPost B Y _ (.tuple #[]) (create D N.data.toList).2 (.returned (.tuple #[])) w1 := ⟨Y2, rfl, H2.out, HT2.out, HB2.out, HG2.out⟩
    exact P2.from (X := []) (Turn.of_below (X := []) HB.out) (by simp) (fun b hb => .inl hb) rfl
  by_cases q1 : k = 1
  · subst q1
    have e1 : doN D ⟨1, N, M, T, a⟩ = (append D N.data.toList T.data.toList).2 := by unfold doN; dsimp only; rw [if_neg (show ¬ (1 : Int) = 0 by decide), if_pos rfl]
    rw [e1]
    have CO := Lib.hid (append_any B _ Y D N T hN hT h0 ok)
    clear e1 h h0 hb0 ok
    unfold ptr at *
    go_enter Try.func15, Try.ntmps15
    go_wp2_with (go_at_call 9; refine CO.out.mono ?_; rintro e w1 ⟨Y2, rfl, h2, ht2, hb2, hg2⟩; have H2 := Lib.hid h2; have HT2 := Lib.hid ht2; have HB2 := Lib.hid hb2; have HG2 := Lib.hid hg2; clear h2 ht2 hb2 hg2)
    go_end0
    have P2 : OpPost B Y _ (.tuple #[]) (append D N.data.toList T.data.toList).2 (.returned (.tuple #[])) w1 := ⟨Y2, rfl, H2.out, HT2.out, HB2.out, HG2.out⟩
    exact P2.from (X := []) (Turn.of_below (X := []) HB.out) (by simp) (fun b hb => .inl hb) rfl
  by_cases q4 : k = 4
  · subst q4
    have e1 : doN D ⟨4, N, M, T, a⟩ = (sync D N.data.toList).2 := by unfold doN; dsimp only; rw [if_neg (show ¬ (4 : Int) = 0 by decide), if_neg (show ¬ (4 : Int) = 1 by decide), if_pos rfl]
    rw [e1]
    have CO := Lib.hid (sync_any B _ Y D N hN h0 ok)
    clear e1 h h0 hb0 ok
    unfold ptr at *
    go_enter Try.func15, Try.ntmps15
    go_wp2_with (go_at_call 17; refine CO.out.mono ?_; rintro e w1 ⟨Y2, rfl, h2, ht2, hb2, hg2⟩; have H2 := Lib.hid h2; have HT2 := Lib.hid ht2; have HB2 := Lib.hid hb2; have HG2 := Lib.hid hg2; clear h2 ht2 hb2 hg2)
    go_end0
    have P2 : OpPost B Y _ (.tuple #[]) (sync D N.data.toList).2 (.returned (.tuple #[])) w1 := ⟨Y2, rfl, H2.out, HT2.out, HB2.out, HG2.out⟩
    exact P2.from (X := []) (Turn.of_below (X := []) HB.out) (by simp) (fun b hb => .inl hb) rfl
  by_cases q5 : k = 5
  · subst q5
    have e1 : doN D ⟨5, N, M, T, a⟩ = (syncDir D).2 := by unfold doN; dsimp only; rw [if_neg (show ¬ (5 : Int) = 0 by decide), if_neg (show ¬ (5 : Int) = 1 by decide), if_neg (show ¬ (5 : Int) = 4 by decide), if_pos rfl]
    rw [e1]
    have CO := Lib.hid (syncDir_any B _ Y D h0 ok)
    clear e1 h h0 hb0 ok
    unfold ptr at *
    go_enter Try.func15, Try.ntmps15
    go_wp2_with (go_at_call 18; refine CO.out.mono ?_; rintro e w1 ⟨Y2, rfl, h2, ht2, hb2, hg2⟩; have H2 := Lib.hid h2; have HT2 := Lib.hid ht2; have HB2 := Lib.hid hb2; have HG2 := Lib.hid hg2; clear h2 ht2 hb2 hg2)
    go_end0
    have P2 : OpPost B Y _ (.tuple #[]) (syncDir D).2 (.returned (.tuple #[])) w1 := ⟨Y2, rfl, H2.out, HT2.out, HB2.out, HG2.out⟩
    exact P2.from (X := []) (Turn.of_below (X := []) HB.out) (by simp) (fun b hb => .inl hb) rfl
  by_cases q6 : k = 6
  · subst q6
    have e1 : doN D ⟨6, N, M, T, a⟩ = (rename D N.data.toList M.data.toList).2 := by unfold doN; dsimp only; rw [if_neg (show ¬ (6 : Int) = 0 by decide), if_neg (show ¬ (6 : Int) = 1 by decide), if_neg (show ¬ (6 : Int) = 4 by decide), if_neg (show ¬ (6 : Int) = 5 by decide), if_pos rfl]
    rw [e1]
    have CO := Lib.hid (rename_any B _ Y D N M hN hM h0 ok hc)
    clear e1 h h0 hb0 ok
    unfold ptr at *
    go_enter Try.func15, Try.ntmps15
    go_wp2_with (go_at_call 10; refine CO.out.mono ?_; rintro e w1 ⟨Y2, rfl, h2, ht2, hb2, hg2⟩; have H2 := Lib.hid h2; have HT2 := Lib.hid ht2; have HB2 := Lib.hid hb2; have HG2 := Lib.hid hg2; clear h2 ht2 hb2 hg2)
    go_end0
    have P2 : OpPost B Y _ (.tuple #[]) (rename D N.data.toList M.data.toList).2 (.returned (.tuple #[])) w1 := ⟨Y2, rfl, H2.out, HT2.out, HB2.out, HG2.out⟩
    exact P2.from (X := []) (Turn.of_below (X := []) HB.out) (by simp) (fun b hb => .inl hb) rfl
  by_cases q7 : k = 7
  · subst q7
    have e1 : doN D ⟨7, N, M, T, a⟩ = (remove D N.data.toList).2 := by unfold doN; dsimp only; rw [if_neg (show ¬ (7 : Int) = 0 by decide), if_neg (show ¬ (7 : Int) = 1 by decide), if_neg (show ¬ (7 : Int) = 4 by decide), if_neg (show ¬ (7 : Int) = 5 by decide), if_neg (show ¬ (7 : Int) = 6 by decide), if_pos rfl]
    rw [e1]
    have CO := Lib.hid (remove_any B _ Y D N hN h0 ok hc)
    clear e1 h h0 hb0 ok
    unfold ptr at *
    go_enter Try.func15, Try.ntmps15
    go_wp2_with (go_at_call 11; refine CO.out.mono ?_; rintro e w1 ⟨Y2, rfl, h2, ht2, hb2, hg2⟩; have H2 := Lib.hid h2; have HT2 := Lib.hid ht2; have HB2 := Lib.hid hb2; have HG2 := Lib.hid hg2; clear h2 ht2 hb2 hg2)
    go_end0
    have P2 : OpPost B Y _ (.tuple #[]) (remove D N.data.toList).2 (.returned (.tuple #[])) w1 := ⟨Y2, rfl, H2.out, HT2.out, HB2.out, HG2.out⟩
    exact P2.from (X := []) (Turn.of_below (X := []) HB.out) (by simp) (fun b hb => .inl hb) rfl
  by_cases q12 : k = 12
  · subst q12
    have e1 : doN D ⟨12, N, M, T, a⟩ = (corrupt D N.data.toList a T.data.toList).2 := by unfold doN; dsimp only; rw [if_neg (show ¬ (12 : Int) = 0 by decide), if_neg (show ¬ (12 : Int) = 1 by decide), if_neg (show ¬ (12 : Int) = 4 by decide), if_neg (show ¬ (12 : Int) = 5 by decide), if_neg (show ¬ (12 : Int) = 6 by decide), if_neg (show ¬ (12 : Int) = 7 by decide), if_pos rfl]
    rw [e1]
    have CO := Lib.hid (corrupt_any B _ Y D N T a hN hT h0 ok)
    clear e1 h h0 hb0 ok
    unfold ptr at *
    go_enter Try.func15, Try.ntmps15
    go_wp2_with (go_at_call 25; refine CO.out.mono ?_; rintro e w1 ⟨Y2, rfl, h2, ht2, hb2, hg2⟩; have H2 := Lib.hid h2; have HT2 := Lib.hid ht2; have HB2 := Lib.hid hb2; have HG2 := Lib.hid hg2; clear h2 ht2 hb2 hg2)
    go_end0
    have P2 : OpPost B Y _ (.tuple #[]) (corrupt D N.data.toList a T.data.toList).2 (.returned (.tuple #[])) w1 := ⟨Y2, rfl, H2.out, HT2.out, HB2.out, HG2.out⟩
    exact P2.from (X := []) (Turn.of_below (X := []) HB.out) (by simp) (fun b hb => .inl hb) rfl
  have e1 : doN D ⟨k, N, M, T, a⟩ = D := by unfold doN; dsimp only; rw [if_neg q0, if_neg q1, if_neg q4, if_neg q5, if_neg q6, if_neg q7, if_neg q12]
  rw [e1]
  have z0 : (k == 0) = false := by simpa using q0
  have z1 : (k == 1) = false := by simpa using q1
  have z4 : (k == 4) = false := by simpa using q4
  have z5 : (k == 5) = false := by simpa using q5
  have z6 : (k == 6) = false := by simpa using q6
  have z7 : (k == 7) = false := by simpa using q7
  have z12 : (k == 12) = false := by simpa using q12
  have H0 := Lib.hid h0
  clear e1 h h0 hb0 ok
  unfold ptr
  go_enter Try.func15, Try.ntmps15
  go_wp2
  go_end0
  exact opPost_same _ H0.out (Turn.of_below (X := []) HB.out) (by simp) rfl rfl
end Go.Proofs.Ytcfdfpjemonhoaa.Dk
