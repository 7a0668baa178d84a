import Derived.Test.YthcjjekkjbidlaaDoorZPSrRead
import Derived.Test.YthcjjekkjbidlaaDoorZPStRefAt
import Derived.Test.YthcjjekkjbidlaaDoorZPSrValue
import Derived.Test.YthcjjekkjbidlaaDoorZPSrNmRun
set_option linter.unusedSimpArgs false
set_option linter.unusedVariables false
/-
  The contract of List: the names in a folder.
-/
namespace Go.Proofs.YthcjjekkjbidlaaDoor.Sr
open Go.RowKit Go.Maps Go.WideMaps Go.Proofs.YthcjjekkjbidlaaDoor.Rf Go.Proofs.YthcjjekkjbidlaaDoor.Nm Go.Proofs.YthcjjekkjbidlaaDoor.St

def listE (p : List UInt8) (L : List TE) : Int :=
  if splitE p ≠ 0 then 10 else match getT (splitL p) L with
    | none => 6
    | some n => if n.at_.node ≠ 2 then 11 else 0
def listN (p : List UInt8) (L : List TE) : List (List UInt8) := if listE p L = 0 then namesT L (splitL p) else []
def ListPost (w : World) (p : List UInt8) (L : List TE) (e : Ending) (w' : World) : Prop :=
  ∃ v, e = .returned (.tuple #[v, .int .i64 (listE p L)]) ∧ w'.ownsRow w.heap.size 9 1 v (listN p L).length ((listN p L).map sv) ∧ Below w.heap.size w w'
set_option linter.unusedSimpArgs false in
set_option maxHeartbeats 8000000 in
set_option maxRecDepth 100000 in
theorem list_any (B : Nat) (w : World) (r : Nat) (T : Tr) (p : List UInt8) (hp : p.length ≤ 4611686018427387904) (hK : ∀ e ∈ T.L, (kidsT T.L e.nm).length ≤ 1000000) (h : TreeAt B w r T) :
    Calls Tryd.prog 34 #[ptr r, .string ⟨p.toArray⟩] w (ListPost w p T.L) := by
  have FI := Lib.hid (find_any B w r T p hp h)
  have H := Lib.hid h; have HK := Lib.hid hK
  clear h hK
  unfold ptr at *
  go_enter Tryd.func34, Tryd.ntmps34
  go_wp2_with fail
  refine FI.out.mono ?_
  rintro ex w1 ⟨v, rfl, hp1, hb1⟩
  have HB := Lib.hid hb1
  obtain ⟨va, vc, rfl⟩ := rowS_slice hp1.row
  clear FI hp1 hb1
  rw [findE, findN]
  rcases splitE_cases p with h0 | ⟨h0, _⟩
  case inr =>
    have hc : listE p T.L = 10 := by rw [listE, if_pos (by rw [h0]; decide)]
    have hd : listN p T.L = [] := by rw [listN, if_neg (by rw [hc]; decide)]
    rw [if_neg (by rw [h0]; decide), if_neg (by rw [h0]; decide)]
    have HC := Lib.hid hc; have HD := Lib.hid hd
    unfold ptrO
    clear h0 hc hd
    go_wp2
    go_ret2
    exact ⟨_, by rw [HC.out]; rfl, by rw [HD.out]; exact rowS_nil _ _ _ _, HB.out⟩
  rw [if_pos h0, if_pos h0]
  have HE1 : Hid (listE p T.L = match getT (splitL p) T.L with
    | none => 6
    | some n => if n.at_.node ≠ 2 then 11 else 0) := Lib.hid (by rw [listE, if_neg (by rw [h0]; decide)])
  clear h0
  cases hg : getT (splitL p) T.L with
  | none =>
    have hc : listE p T.L = 6 := by rw [HE1.out, hg]
    have hd : listN p T.L = [] := by rw [listN, if_neg (by rw [hc]; decide)]
    have HC := Lib.hid hc; have HD := Lib.hid hd
    unfold ptrO
    clear hg hc hd HE1
    go_wp2
    go_ret2
    exact ⟨_, by rw [HC.out]; rfl, by rw [HD.out]; exact rowS_nil _ _ _ _, HB.out⟩
  | some n =>
    obtain ⟨hn, hnm⟩ := getT_nm hg
    have HN := Lib.hid hn
    have HT1 := Lib.hid (H.out.below HB.out)
    have nd := (HT1.out.node n hn).cells
    have c2 : w1.cell? ⟨n.p, 2, none⟩ = some (.int .u8 (n.at_.node : Int)) := cell_of_heap nd
    by_cases h2 : n.at_.node = 2
    case neg =>
      have hc : listE p T.L = 11 := by rw [HE1.out, hg]; exact if_pos h2
      have hd : listN p T.L = [] := by rw [listN, if_neg (by rw [hc]; decide)]
      have HC := Lib.hid hc; have HD := Lib.hid hd
      have hb : (((n.at_.node : Nat) : Int) == 2) = false := by rw [beq_eq_false_iff_ne]; omega
      have hb2 : (((n.at_.node : Nat) : Int) != 2) = true := by rw [bne, hb]; rfl
      unfold ptrO
      clear hg hc hd HE1 h2 nd hn hnm
      go_wp2
      go_ret2
      exact ⟨_, by rw [HC.out]; rfl, by rw [HD.out]; exact rowS_nil _ _ _ _, HB.out⟩
    have hc : listE p T.L = 0 := by rw [HE1.out, hg]; exact if_neg (by simp [h2])
    have hd : listN p T.L = (kidsT T.L n.nm).map (·.1) := by rw [listN, if_pos hc, namesT, hnm]
    have HC := Lib.hid hc; have HD := Lib.hid hd
    have ck : w1.cell? ⟨n.p, 10, none⟩ = some (mapV n.m) := cell_of_heap nd
    have KE := Lib.hid (fun W => Tryd.keysT n.m W)
    have SK := kids_sorted HT1.out HN.out (HK.out n hn)
    obtain ⟨K, hKd⟩ : ∃ K, K = (kidsT T.L n.nm).map (·.1) := ⟨_, rfl⟩
    rw [← hKd] at SK hd
    have SK := Lib.hid SK
    have HD2 := Lib.hid hd
    rw [h2] at c2
    unfold ptrO
    clear hg hc hd HE1 h2 nd hn hnm hKd HD
    go_wp2_with (first
      | (go_at_call 59; refine (KE.out _).mono ?_; rintro ex w7 ⟨rfl, hw7⟩; obtain rfl := hw7)
      | (go_at_call 58; refine SK.out.mono ?_; rintro ex w8 ⟨kv, rfl, hko, hkb⟩; obtain ⟨ka, kc, rfl⟩ := rowS_slice hko; have HKO := Lib.hid hko; have HKB := Lib.hid hkb; clear hko hkb))
    go_ret2
    refine ⟨_, by rw [HC.out]; rfl, by rw [HD2.out]; exact row_mono HKO.out (by rw [one_size]; have := HB.out.size; omega), ?_⟩
    exact (HB.out.alloc HB.out.size (Obj.cells #[mapV n.m] MkT)).trans (HKB.out.mono (by rw [one_size]; have := HB.out.size; omega))
end Go.Proofs.YthcjjekkjbidlaaDoor.Sr
