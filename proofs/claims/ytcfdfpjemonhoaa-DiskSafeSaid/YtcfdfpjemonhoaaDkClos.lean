/-
  The contracts of the closures that turn a directory.
-/
import Derived.Test.YtcfdfpjemonhoaaDkSmall
namespace Go.Proofs.Ytcfdfpjemonhoaa.Dk
open Go.RowKit Go.Maps Go.WideMaps

abbrev Dir (w : World) (b n : Nat) (m : DM) : Prop := w.ownsMap Try.prog 9 (plainElem (H := Unit) Try.prog 3) b n (toD m)

theorem dir_tight {w : World} {b n n' : Nat} {m : DM} (h : Dir w b n m) (hs : m.length ≤ n') : Dir w b n' m := by
  obtain ⟨es, clock, h1, h2, h3, h4⟩ := h
  refine ⟨es, clock, h1, h2, ?_, h4⟩
  have := congrArg Maps.size h4
  rw [toD_size, Maps.size_eq, length_sorted] at this
  simp at this
  omega

theorem delM_length (m : DM) (k : List UInt8) : (delM m k).length ≤ m.length := List.length_filter_le _ _
theorem insM_length (k : List UInt8) (n : Nat) : ∀ m : DM, (insM k n m).length = m.length + 1
  | [] => rfl
  | y :: r => by rw [insM]; split <;> simp [insM_length k n r]
theorem putM_length (m : DM) (k : List UInt8) (n : Nat) : (putM m k n).length ≤ m.length + 1 := by
  rw [putM, insM_length]; have := delM_length m k; omega
theorem Ch.on_length (m : DM) (c : Ch) : (c.on m).length ≤ m.length + 1 := by
  cases c with
  | put k n => exact putM_length m k n
  | ren a b => exact Nat.le_trans (delM_length _ _) (putM_length _ _ _)
  | del k => exact Nat.le_trans (delM_length _ _) (Nat.le_succ _)

/-- What a closure leaves. -/
def ClosPost (b : Nat) (m : DM) (w : World) (e : Ending) (w' : World) : Prop := e = .returned (.tuple #[]) ∧ Dir w' b 1000000 m ∧ w.grownBy w' (some b)

set_option maxHeartbeats 2000000 in
set_option maxRecDepth 100000 in
theorem clos_put (w : World) (b : Nat) (m : DM) (hd : Dir w b 1000000 m) (hm : m.length < 1000000) (k : List UInt8) (hk : k.length ≤ maxLen) (i : Nat) (hi : i ≤ 1000000) (q1 q2 : Nat)
    (h1 : w.heap[q1]? = some (.cells #[.int .i64 (i : Int)] 3)) (h2 : w.heap[q2]? = some (.cells #[.string ⟨k.toArray⟩] 9)) :
    Calls Try.prog 33 #[.map (some b), ptr q1, ptr q2] w (ClosPost b (putM m k i) w) := by
  have c1 : w.cell? ⟨q1, 0, none⟩ = some (.int .i64 (i : Int)) := cell_of_heap h1
  have c2 : w.cell? ⟨q2, 0, none⟩ = some (.string ⟨k.toArray⟩) := cell_of_heap h2
  have hks : (⟨k.toArray⟩ : ByteArray).size ≤ maxLen := by rw [Lib.size_eq]; simpa using hk
  have hkey := keyOf_string_mk (P := Try.prog) Try.underlying9 hks
  have hkd : (⟨k.toArray⟩ : ByteArray).data.toList = k := by simp
  have hm2 := putM_length m k i
  rw [hkd] at hkey
  generalize (⟨k.toArray⟩ : ByteArray) = K at *
  have HKEY := Lib.hid hkey; have HD := Lib.hid hd
  clear h1 h2 hkey hd hkd
  go_enter Try.func33, Try.ntmps33
  go_wp2_with (at_mapUpdate; refine wpList_mapUpdate_in _ rfl _ _ _ 59 rfl 9 3 law Try.underlying59 _ b 1000000 _ rfl HD.out (by unfold maxLen; omega) _ _ _ rfl rfl HKEY.out _ [] (plainElem_int Try.underlying3 (WalkArith.wf_i64 (by omega))) ?_; intro w1 hown1 hturn1)
  rw [toD_put] at hown1
  go_end0
  exact ⟨rfl, dir_tight hown1 (by omega), hturn1.grown⟩

set_option maxHeartbeats 2000000 in
set_option maxRecDepth 100000 in
theorem clos_del (w : World) (b : Nat) (m : DM) (hd : Dir w b 1000000 m) (k : List UInt8) (hk : k.length ≤ maxLen) (q1 : Nat)
    (h1 : w.heap[q1]? = some (.cells #[.string ⟨k.toArray⟩] 9)) :
    Calls Try.prog 36 #[.map (some b), ptr q1] w (ClosPost b (delM m k) w) := by
  have c1 : w.cell? ⟨q1, 0, none⟩ = some (.string ⟨k.toArray⟩) := cell_of_heap h1
  have hks : (⟨k.toArray⟩ : ByteArray).size ≤ maxLen := by rw [Lib.size_eq]; simpa using hk
  have hkey := keyOf_string_mk (P := Try.prog) Try.underlying9 hks
  have hkd : (⟨k.toArray⟩ : ByteArray).data.toList = k := by simp
  rw [hkd] at hkey
  generalize (⟨k.toArray⟩ : ByteArray) = K at *
  have HKEY := Lib.hid hkey; have HD := Lib.hid hd
  clear h1 hkey hd hkd
  go_enter Try.func36, Try.ntmps36
  go_wp2_with (at_delete; refine wpList_delete_own _ rfl _ _ 59 9 rfl 3 law Try.underlying59 _ b 1000000 _ rfl HD.out _ _ rfl HKEY.out ?_; intro w1 hown1 hturn1)
  rw [toD_del] at hown1
  go_end0
  exact ⟨rfl, hown1, hturn1.grown⟩

theorem cell_turned {w w1 : World} {b q : Nat} {v : Value} {T : TypeId} (h : w.heap[q]? = some (.cells #[v] T)) (ht : w.mapTurned w1 b) (hne : q ≠ b) : w1.cell? ⟨q, 0, none⟩ = some v :=
  cell_of_heap ((ht.grown.block q (lt_of_heap h) (by intro e; injection e with e; exact hne e)).trans h)

set_option maxHeartbeats 2000000 in
set_option maxRecDepth 100000 in
theorem clos_ren (w : World) (b : Nat) (m : DM) (hd : Dir w b 1000000 m) (hm : m.length < 1000000) (k l : List UInt8) (hk : k.length ≤ maxLen) (hl : l.length ≤ maxLen) (hi : (getM m k).getD 0 ≤ 1000000) (q1 q2 : Nat) (hb1 : q1 ≠ b) (hb2 : q2 ≠ b)
    (h1 : w.heap[q1]? = some (.cells #[.string ⟨k.toArray⟩] 9)) (h2 : w.heap[q2]? = some (.cells #[.string ⟨l.toArray⟩] 9)) :
    Calls Try.prog 35 #[.map (some b), ptr q1, ptr q2] w (ClosPost b (delM (putM m l ((getM m k).getD 0)) k) w) := by
  have c1 : w.cell? ⟨q1, 0, none⟩ = some (.string ⟨k.toArray⟩) := cell_of_heap h1
  have c2 : w.cell? ⟨q2, 0, none⟩ = some (.string ⟨l.toArray⟩) := cell_of_heap h2
  have hks : (⟨k.toArray⟩ : ByteArray).size ≤ maxLen := by rw [Lib.size_eq]; simpa using hk
  have hls : (⟨l.toArray⟩ : ByteArray).size ≤ maxLen := by rw [Lib.size_eq]; simpa using hl
  have hkey := keyOf_string_mk (P := Try.prog) Try.underlying9 hks
  have hkey2 := keyOf_string_mk (P := Try.prog) Try.underlying9 hls
  have hkd : (⟨k.toArray⟩ : ByteArray).data.toList = k := by simp
  have hld : (⟨l.toArray⟩ : ByteArray).data.toList = l := by simp
  have hlk := look_run1 hd ⟨k.toArray⟩ hks
  rw [hkd] at hkey hlk
  rw [hld] at hkey2
  have hm2 := putM_length m l ((getM m k).getD 0)
  generalize (getM m k).getD 0 = i at *
  generalize hK : (⟨k.toArray⟩ : ByteArray) = K at *
  generalize hL : (⟨l.toArray⟩ : ByteArray) = L at *
  have HKEY := Lib.hid hkey; have HKEY2 := Lib.hid hkey2; have HD := Lib.hid hd; have H1 := Lib.hid h1
  clear h1 h2 hkey hkey2 hd hkd hld hK hL
  go_enter Try.func35, Try.ntmps35
  go_wp2_with (first
    | (at_mapUpdate; refine wpList_mapUpdate_in _ rfl _ _ _ 59 rfl 9 3 law Try.underlying59 _ b 1000000 _ rfl HD.out (by unfold maxLen; omega) _ _ _ rfl rfl HKEY2.out _ [] (plainElem_int Try.underlying3 (WalkArith.wf_i64 (by omega))) ?_; intro w1 hown1 hturn1; have c11 := cell_turned H1.out hturn1 hb1)
    | (at_delete; refine wpList_delete_own _ rfl _ _ 59 9 rfl 3 law Try.underlying59 _ b (1000000 + 1) _ rfl hown1 _ _ rfl HKEY.out ?_; intro w2 hown2 hturn2))
  rw [toD_put, toD_del] at hown2
  go_end0
  exact ⟨rfl, dir_tight hown2 (by have := delM_length (putM m l i) k; omega), (hturn1.trans hturn2).grown⟩
end Go.Proofs.Ytcfdfpjemonhoaa.Dk
