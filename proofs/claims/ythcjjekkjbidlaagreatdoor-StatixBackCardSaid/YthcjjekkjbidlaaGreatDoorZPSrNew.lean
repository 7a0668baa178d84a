import Derived.Test.YthcjjekkjbidlaaGreatDoorZPSrAdd
import Derived.Test.YthcjjekkjbidlaaGreatDoorZPSrChanged
import Derived.Test.YthcjjekkjbidlaaGreatDoorZPStBackPlain
import Derived.Test.YthcjjekkjbidlaaGreatDoorZPStLen
set_option linter.unusedSimpArgs false
set_option linter.unusedVariables false
/-
  The contracts of New and File.
-/
namespace Go.Proofs.YthcjjekkjbidlaaGreatDoor.Sr
open Go.RowKit Go.Maps Go.WideMaps Go.Proofs.YthcjjekkjbidlaaGreatDoor.Rf Go.Proofs.YthcjjekkjbidlaaGreatDoor.Nm Go.Proofs.YthcjjekkjbidlaaGreatDoor.St

/-- The root of a new tree. -/
def rootE (p m : Nat) : TE := ⟨[], 1, 0, ⟨2, 493, 0, 0, 0, [], []⟩, [], p, some m, .slice none 0 0⟩
def newT (p m : Nat) : Tr := ⟨[rootE p m], 0, 1, 0⟩
set_option linter.unusedSimpArgs false in
set_option maxHeartbeats 4000000 in
set_option maxRecDepth 100000 in
theorem tree_new (w : World) :
    Calls Tryz.prog 28 #[] w fun e w' => ∃ r p m, e = .returned (ptr r) ∧ TreeAt w.heap.size w' r (newT p m) ∧ Below w.heap.size w w' := by
  have hmm := @run_makeMap Tryz.prog
  go_enter Tryz.func28, Tryz.ntmps28
  go_wp2
  go_ret
  obtain ⟨n, hn⟩ : ∃ n, n = w.heap.size := ⟨_, rfl⟩
  obtain ⟨A, hA⟩ : ∃ A, A = w.alloc (.map #[] 0) := ⟨_, rfl⟩
  have sA : A.heap.size = n + 1 := by rw [hA, one_size, hn]
  obtain ⟨C, hC⟩ : ∃ C, C = A.alloc (.cells (rootE (n + 1) n).cells.toArray NdT) := ⟨_, rfl⟩
  have sC : C.heap.size = n + 1 + 1 := by rw [hC, one_size, sA]
  obtain ⟨D, hD⟩ : ∃ D, D = C.alloc (.cells #[ptr (n + 1), .int .i64 0, .int .u64 1, .int .i64 0] TrT) := ⟨_, rfl⟩
  have qC : C.heap[n + 1]? = some (.cells (rootE (n + 1) n).cells.toArray NdT) := by rw [hC, ← sA]; exact (MapKept.heap_alloc A _).1
  have qD : D.heap[n + 1 + 1]? = some (.cells #[ptr (n + 1), .int .i64 0, .int .u64 1, .int .i64 0] TrT) := by rw [hD, ← sC]; exact (MapKept.heap_alloc C _).1
  have bD : Below n w D := by
    rw [hD, hC, hA]
    exact (((Below.refl _ _).alloc (by omega) _).alloc (by rw [one_size]; omega) _).alloc (by rw [one_size, one_size]; omega) _
  have mA : A.ownsMap Tryz.prog 9 Rv n 1000000 (toD ptr ([] : MV Nat)) := by
    rw [hA, hn]; exact map_tight (enc := ptr) (m := ([] : MV Nat)) (World.ownsMap_made w Tryz.prog 9 Rv) (by decide)
  have mD : D.ownsMap Tryz.prog 9 Rv n 1000000 (toD ptr ([] : MV Nat)) := by rw [hD, hC]; exact (mA.alloc _).alloc _
  have hk : kidsT [rootE (n + 1) n] [] = [] := rfl
  refine ⟨n + 1 + 1, n + 1, n, by rw [hn]; rfl, ?_, ?_⟩
  · show TreeAt w.heap.size _ _ _
    have hE : ((w.alloc (.map #[] 0)).alloc (.cells (rootE (w.heap.size + 1) w.heap.size).cells.toArray NdT)).alloc (.cells #[ptr (w.heap.size + 1), .int .i64 0, .int .u64 1, .int .i64 0] TrT) = D := by rw [hD, hC, hA, hn]
    have hT : TreeAt n D (n + 1 + 1) (newT (n + 1) n) := by
      refine ⟨⟨rootE (n + 1) n, rfl, qD⟩, fun e he => ?_, ?_, ?_, ?_, List.pairwise_singleton _ _, ?_, ?_⟩
      · obtain rfl := List.mem_singleton.1 he
        refine ⟨by rw [hD]; exact at_alloc qC _, fun b hb => ?_, ⟨none, 0, rfl, Nat.zero_le _, by simp [rootE], by simp [rootE]⟩⟩
        obtain rfl := Option.some.inj hb
        exact mD
      · show ((n + 1 + 1) :: ownL [rootE (n + 1) n]).Nodup
        simp [ownL, ownE, rootE]; omega
      · intro b hb
        simp [xobL, newT, rootE, xob] at hb
      · intro b hb
        simp [ownL, ownE, xobL, xob, newT, rootE] at hb
        omega
      · intro e he m s hm
        obtain rfl := List.mem_singleton.1 he
        have := congrArg List.length hm
        simp [rootE] at this
      · intro e he
        obtain rfl := List.mem_singleton.1 he
        simp [rootE]
    rw [← hE] at hT
    subst hn
    exact hT
  · have : ((w.alloc (.map #[] 0)).alloc (.cells (rootE (w.heap.size + 1) w.heap.size).cells.toArray NdT)).alloc (.cells #[ptr (w.heap.size + 1), .int .i64 0, .int .u64 1, .int .i64 0] TrT) = D := by rw [hD, hC, hA, hn]
    rw [← this] at bD
    subst hn
    exact bD
/-- What File hands to add. -/
def asFile (A : XA) : XA := { A with node := 1, target := [] }
set_option linter.unusedSimpArgs false in
set_option maxHeartbeats 4000000 in
set_option maxRecDepth 100000 in
theorem file_any (B : Nat) (w : World) (r : Nat) (T : Tr) (p d : List UInt8) (A : XA) (v : Value) (hp : p.length ≤ 4611686018427387904) (hd : d.length ≤ 4611686018427387904) (hv : XsAt w v A.xs) (hvr : ∀ b ∈ xob A.xs v, b ≠ r) (hmost : T.most < 18446744073709551615) (h : TreeAt B w r T) :
    Calls Tryz.prog 70 #[ptr r, .string ⟨p.toArray⟩, .string ⟨d.toArray⟩, .agg (A.cells v).toArray] w fun e w' => ∃ W, Below w.heap.size w W ∧ TreeAt B W r T ∧ AddPost B W r T p d (asFile A) e w' := by
  obtain ⟨W, hW⟩ : ∃ W, W = w.alloc (.cells (((A.cells v).set 0 (.int .u8 1)).set 5 (.string ⟨#[]⟩)).toArray AtT) := ⟨_, rfl⟩
  have q2 : W.heap[w.heap.size]? = some (.cells ((asFile A).cells v).toArray AtT) := by rw [hW]; exact (MapKept.heap_alloc w _).1
  have hb : Below w.heap.size w W := by rw [hW]; exact (Below.refl _ _).alloc (Nat.le_refl _) _
  have q0 : (w.alloc (.cells (A.cells v).toArray AtT)).heap[w.heap.size]? = some (.cells (A.cells v).toArray AtT) := (MapKept.heap_alloc w _).1
  have hT := h.below hb
  have hX : XsAt W v (asFile A).xs := hv.kept hb.size (fun b hb' => hb.block b (hv.lt b hb'))
  have AD := Lib.hid (add_any B W r T p d (asFile A) v hp hd hX hvr hmost hT)
  have HQ2 : Hid (W.heap[w.heap.size]? = some (.cells ((asFile A).cells v).toArray AtT)) := Lib.hid q2
  have HB := Lib.hid hb; have HT := Lib.hid hT; have HW := Lib.hid hW
  have k0 : (w.alloc (.cells (A.cells v).toArray AtT)).cell? ⟨w.heap.size, 0, none⟩ = some (.int .u8 (A.node : Int)) := cell_of_heap q0
  have f0 : (w.alloc (.cells (A.cells v).toArray AtT)).frozen? ⟨w.heap.size, 0, none⟩ = false := frozen_of_heap q0
  unfold ptr at *
  clear h hv hvr hmost hT hX q0 q2 hb hW
  go_enter Tryz.func70, Tryz.ntmps70
  go_wp2_with (first
    | (refine Sh.wpList_load_at (T := AtT) (cs := ((asFile A).cells v).toArray) (by rw [← HW.out]; exact HQ2.out) rfl AtT (.tmp 7) rfl rfl _ Tryz.underlying147 rfl (infoAt _ _) ?_)
    | fail)
  rw [← HW.out]
  refine AD.out.mono ?_
  rintro ex w1 ⟨rfl, hno, hyes⟩
  have HNO := Lib.hid hno; have HYES := Lib.hid hyes
  clear hno hyes AD
  go_wp2
  go_ret
  exact ⟨W, HB.out, HT.out, rfl, HNO.out, HYES.out⟩
end Go.Proofs.YthcjjekkjbidlaaGreatDoor.Sr
/-
  The contract of the statements' awake: a file entered, then written.
-/
namespace Go.Proofs.YthcjjekkjbidlaaGreatDoor.Sr
open Go.RowKit Go.Maps Go.WideMaps Go.Proofs.YthcjjekkjbidlaaGreatDoor.Rf Go.Proofs.YthcjjekkjbidlaaGreatDoor.Nm Go.Proofs.YthcjjekkjbidlaaGreatDoor.St

def p0 : List UInt8 := [47, 102]
theorem sp0 : splitP p0 = some [[102]] := by decide +kernel
theorem se0 : splitE p0 = 0 := by rw [splitE, sp0]; rfl
theorem sl0 : splitL p0 = [[102]] := by rw [splitL, sp0]; rfl
theorem chk0 : chkA (asFile zeroA) = true := by decide +kernel
def e0 : SE := ⟨p0, 1, 1, 2, 1, 1, List.replicate 32 0⟩
theorem e0_fits : e0.Fits := ⟨by decide, by decide, by decide, by decide, by decide, by decide, by decide⟩
theorem may0 : mayN e0 = 0 := by decide +kernel
theorem set0 : setX e0 [] = (0, [e0]) := by rw [setX, if_neg (by rw [may0]; simp), if_neg (by simp)]; rfl
theorem add0 (p m : Nat) : addE p0 [97] (asFile zeroA) (newT p m) = 0 := by
  rw [addE, se0, sl0, chk0]
  simp [newT, rootE, getT, abvE, kidsT, kidOf]
theorem tick_two (a b : TE) (c : Int) : tickT [b.p, a.p] c [a, b] = [{ a with tick := c }, { b with tick := c }] := by
  by_cases h : a.p = b.p
  · simp [tickT, tick1, h]
  · have h2 : b.p ≠ a.p := Ne.symm h
    simp [tickT, tick1, h, h2]
def r1 (p m : Nat) : TE := { rootE p m with tick := 1 }
def n1 (q : Nat) (m : Option Nat) (v : Value) : TE := ⟨[[102]], 2, 1, asFile zeroA, [97], q, m, v⟩
def n2 (q : Nat) (m : Option Nat) (v : Value) : TE := ⟨[[102]], 2, 2, asFile zeroA, [98], q, m, v⟩
theorem list1 {p m : Nat} {n u : TE} (hu : u ∈ (newT p m).L) (h1 : n.nm = splitL p0) (h2 : n.ino = (newT p m).most + 1) (h3 : n.at_ = asFile zeroA) (h4 : n.data = [97]) :
    tickT [n.p, u.p] (((newT p m).clock + 1 : Nat) : Int) (insT n (newT p m).L) = [r1 p m, n1 n.p n.m n.xv] := by
  obtain rfl := List.mem_singleton.1 hu
  obtain ⟨nm, ino, tick, at_, data, q, mm, v⟩ := n
  rw [sl0] at h1
  dsimp only at h1 h2 h3 h4
  subst h1 h2 h3 h4
  have : insT ⟨[[102]], (newT p m).most + 1, tick, asFile zeroA, [97], q, mm, v⟩ (newT p m).L = [rootE p m, ⟨[[102]], (newT p m).most + 1, tick, asFile zeroA, [97], q, mm, v⟩] := rfl
  rw [this]
  exact tick_two (rootE p m) ⟨[[102]], (newT p m).most + 1, tick, asFile zeroA, [97], q, mm, v⟩ _
def t1 (p m q : Nat) (mm : Option Nat) (v : Value) : Tr := ⟨[r1 p m, n1 q mm v], 1, 2, 0⟩
def t2 (p m q : Nat) (mm : Option Nat) (v : Value) : Tr := ⟨[r1 p m, n2 q mm v], 2, 2, 0⟩
theorem get1 (p m q : Nat) (mm : Option Nat) (v : Value) : getT [[102]] (t1 p m q mm v).L = some (n1 q mm v) := by simp [getT, t1, r1, rootE, n1]
theorem find1 (p m q : Nat) (mm : Option Nat) (v : Value) : findN p0 (t1 p m q mm v).L = some (n1 q mm v) ∧ findE p0 (t1 p m q mm v).L = 0 := by
  rw [findN, findE, se0, sl0, get1]; exact ⟨rfl, rfl⟩
theorem stat1 (p m q : Nat) (mm : Option Nat) (v : Value) : (statN p0 (t1 p m q mm v).L).stat.toArray = #[.int .u8 1, .int .i64 1, .int .u64 2, .int .i64 1] := by
  rw [statN, (find1 p m q mm v).1]; rfl
theorem fresh_same (q : Nat) (mm : Option Nat) (v : Value) : chgB [e0] (n1 q mm v) = false := by
  have h1 : getL p0 [e0] = some e0 := rfl
  have h2 : pathN (n1 q mm v).nm = p0 := rfl
  have h3 : statIs e0 (stF (n1 q mm v)) = true := rfl
  rw [chgB, h2, freshX, h1]
  dsimp only
  rw [h3]; rfl
theorem fresh_turned (q : Nat) (mm : Option Nat) (v : Value) : chgB [e0] (n2 q mm v) = true := by
  have h1 : getL p0 [e0] = some e0 := rfl
  have h2 : pathN (n2 q mm v).nm = p0 := rfl
  have h3 : statIs e0 (stF (n2 q mm v)) = false := rfl
  rw [chgB, h2, freshX, h1]
  dsimp only
  rw [h3]; rfl
theorem root_still (p m : Nat) : chgB [e0] (r1 p m) = false := rfl
theorem chg1 (p m q : Nat) (mm : Option Nat) (v : Value) : chgL [e0] (t1 p m q mm v).L = [] := by
  rw [chgL, t1, List.filter_cons_of_neg (by rw [root_still]; decide), List.filter_cons_of_neg (by rw [fresh_same]; decide)]; rfl
theorem chg2 (p m q : Nat) (mm : Option Nat) (v : Value) : chgL [e0] (t2 p m q mm v).L = [p0] := by
  rw [chgL, t2, List.filter_cons_of_neg (by rw [root_still]; decide), List.filter_cons_of_pos (fresh_turned _ _ _)]; rfl
theorem write1 {p m q : Nat} {mm : Option Nat} {v : Value} (hq : p ≠ q) : writeE p0 [98] (t1 p m q mm v) = 0 ∧ writeT p0 [98] (t1 p m q mm v) = t2 p m q mm v := by
  have h0 : writeE p0 [98] (t1 p m q mm v) = 0 := by
    rw [writeE, if_neg (by rw [se0]; simp), if_neg (by decide), sl0, get1]; rfl
  refine ⟨h0, ?_⟩
  rw [writeT, if_pos h0, sl0, get1]
  have hq2 : ¬ (rootE p m).p = q := hq
  simp [t1, t2, tickT, tick1, updT, n1, n2, r1, hq2]
theorem fine1 (p m q : Nat) (mm : Option Nat) (v : Value) : Fine (t1 p m q mm v) := by
  refine ⟨fun e he => ?_, fun e he => ?_, fun e he => ?_⟩
  · simp [t1] at he; rcases he with rfl | rfl <;> simp [r1, rootE, n1, asFile, zeroA]
  · simp [t1] at he; rcases he with rfl | rfl
    · exact ⟨by show (pathOf []).length ≤ _; decide, by intro s hs; cases hs⟩
    · exact ⟨by show (pathOf [[102]]).length ≤ _; decide, by intro s hs; simp [n1] at hs; subst hs; decide⟩
  · exact Nat.le_trans (List.length_filterMap_le _ _) (by show 2 ≤ _; decide)
theorem fine2 (p m q : Nat) (mm : Option Nat) (v : Value) : Fine (t2 p m q mm v) := by
  refine ⟨fun e he => ?_, fun e he => ?_, fun e he => ?_⟩
  · simp [t2] at he; rcases he with rfl | rfl <;> simp [r1, rootE, n2, asFile, zeroA]
  · simp [t2] at he; rcases he with rfl | rfl
    · exact ⟨by show (pathOf []).length ≤ _; decide, by intro s hs; cases hs⟩
    · exact ⟨by show (pathOf [[102]]).length ≤ _; decide, by intro s hs; simp [n2] at hs; subst hs; decide⟩
  · exact Nat.le_trans (List.length_filterMap_le _ _) (by show 2 ≤ _; decide)

theorem index_turn {B : Nat} {w w' : World} {g b : Nat} {L : List SE} {X : List Nat} (h : IndexAt B w g b L) (ht : Turn X w w') (hg : g ∉ X) (hb : b ∉ X) : IndexAt B w' g b L :=
  h.kept (ht.block g h.lt_g hg) (ht.block b h.lt_b hb)
set_option linter.unusedSimpArgs false in
set_option maxHeartbeats 16000000 in
set_option maxRecDepth 100000 in
theorem awake_any (w : World) : Calls Tryz.prog 51 #[] w fun e w' => e = .returned (.bool true) ∧ Below w.heap.size w w' := by
  have TN := Lib.hid (tree_new w)
  go_enter Tryz.func51, Tryz.ntmps51
  go_wp2_with fail
  refine TN.out.mono ?_
  rintro ex w1 ⟨r, p, m, rfl, ht1, hb1⟩
  have HT1 := Lib.hid ht1; have HB1 := Lib.hid hb1
  have NW := Lib.hid (new_any w1)
  clear ht1 hb1 TN
  unfold ptr
  go_wp2_with fail
  refine NW.out.mono ?_
  rintro ex w2 ⟨g, b, rfl, hi2, hb2⟩
  have HI2 := Lib.hid hi2
  have HB2 := Lib.hid (HB1.out.trans (hb2.mono HB1.out.size))
  have HT2 := Lib.hid (HT1.out.below hb2)
  -- the index lies behind the tree
  have HGB : Hid (∀ x ∈ r :: (ownL (newT p m).L ++ xobL (newT p m).L), x < g ∧ x < b) := Lib.hid (fun x hx => by
    have := HT1.out.lt x hx; have := hi2.baseg; have := hi2.baseb; omega)
  have FI := file_any w.heap.size w2 r (newT p m) p0 [97] zeroA (.slice none 0 0) (by decide) (by decide) ⟨none, 0, rfl, Nat.zero_le _, by simp [zeroA], by simp [zeroA]⟩ (by simp [zeroA, xob]) (by show (1 : Nat) < _; decide) HT2.out
  have FI := Lib.hid FI
  clear hi2 hb2 NW HT1
  unfold ptr at *
  go_wp2_with fail
  refine FI.out.mono ?_
  rintro ex w3 ⟨W, hbW, htW, rfl, _, hyes⟩
  obtain ⟨n, u, hu, _, n1', n2', n3', n4', _, ht3, hu3, hnew⟩ := hyes (add0 p m)
  rw [list1 hu n1' n2' n3' n4', add0] at *
  have ht3' : TreeAt w.heap.size w3 r (t1 p m n.p n.m n.xv) := ht3
  have HB0T : Hid (∀ x ∈ r :: (ownL (newT p m).L ++ xobL (newT p m).L), w.heap.size ≤ x) := Lib.hid HT2.out.base
  have HI3 : Hid (IndexAt w1.heap.size w3 g b []) := Lib.hid (index_turn (HI2.out.below hbW) hu3 (fun h => by
    have h2 : g ∈ r :: (ownL (newT p m).L ++ xobL (newT p m).L) := by rw [List.mem_cons] at h ⊢; exact h.imp id (fun h => List.mem_append_left _ h)
    have := (HGB.out g h2).1; omega) (fun h => by
    have h2 : b ∈ r :: (ownL (newT p m).L ++ xobL (newT p m).L) := by rw [List.mem_cons] at h ⊢; exact h.imp id (fun h => List.mem_append_left _ h)
    have := (HGB.out b h2).2; omega))
  have HB3 : Hid (Below w.heap.size w w3) := Lib.hid ((HB2.out.trans (hbW.mono HB2.out.size)).trans (hu3.below (fun y hy => HB0T.out y (by rw [List.mem_cons] at hy ⊢; exact hy.imp id (fun h => List.mem_append_left _ h))) (Nat.le_trans HB2.out.size hbW.size)))
  -- the tree's blocks and the index's
  have HSEP : Hid (∀ x ∈ r :: ownL (t1 p m n.p n.m n.xv).L, x ≠ g ∧ x ≠ b) := Lib.hid (by
    intro x hx
    have ho : x ∈ r :: (ownL (newT p m).L ++ xobL (newT p m).L) ∨ x ∈ ownE n := by
      rw [List.mem_cons] at hx
      rcases hx with hx | hx
      · left; simp [hx]
      · obtain ⟨y, hy, hxy⟩ := List.mem_flatMap.1 hx
        rcases List.mem_cons.1 hy with rfl | hy
        · exact .inl (List.mem_cons_of_mem _ (List.mem_append_left _ (List.mem_flatMap.2 ⟨rootE p m, by simp [newT], hxy⟩)))
        · rw [List.mem_singleton] at hy
          subst hy
          exact .inr hxy
    rcases ho with ho | ho
    · have := HGB.out x ho; omega
    · have h1 := hnew x (List.mem_append_left _ ho)
      have h2 := hbW.size
      have h3 := HI2.out.lt_g; have h4 := HI2.out.lt_b
      omega)
  have HT3 := Lib.hid ht3'
  clear ht3 ht3' hu3 hnew hyes hbW htW FI HT2 HI2 HB2 hu n1' n2' n3' n4'
  generalize n.p = q at *
  generalize n.m = mm at *
  generalize n.xv = v at *
  have HPQ : Hid (p ≠ q) := Lib.hid (fun h => by
    have := HT3.out.p_inj (a := r1 p m) (b := n1 q mm v) (by simp [t1]) (by simp [t1]) h
    have := congrArg TE.nm this
    cases this)
  have ST := stat_any w.heap.size w3 r (t1 p m q mm v) p0 (by decide) HT3.out
  rw [stat1, (find1 p m q mm v).2] at ST
  have ST := Lib.hid ST
  unfold ptr at ST
  go_wp2_with fail
  refine ST.out.mono ?_
  rintro ex w4 ⟨rfl, hb4⟩
  have HT4 := Lib.hid (HT3.out.below hb4); have HI4 := Lib.hid (HI3.out.below hb4); have HB4 := Lib.hid (HB3.out.trans (hb4.mono HB3.out.size))
  clear hb4 ST HT3 HI3
  go_wp2_with (first
    | (refine Sh.wpList_store_new rfl rfl 40 (.tmp 3) (.tmp 26) rfl #[.int .u8 1, .int .i64 1, .int .u64 2, .int .i64 1] rfl rfl infoSt rfl (oneSt _ _ _ _ rfl rfl rfl rfl) ?_
       intro w5 hq5 hb5 hs5
       have HT5 := Lib.hid (HT4.out.below hb5); have HI5 := Lib.hid (HI4.out.below hb5); have HB5 := Lib.hid (HB4.out.trans (hb5.mono HB4.out.size))
       have z0 : w5.cell? ⟨w4.heap.size, 0, none⟩ = some (.int .u8 1) := cell_of_heap hq5
       have z1 : w5.cell? ⟨w4.heap.size, 1, none⟩ = some (.int .i64 1) := cell_of_heap hq5
       have z2 : w5.cell? ⟨w4.heap.size, 2, none⟩ = some (.int .u64 2) := cell_of_heap hq5
       have z3 : w5.cell? ⟨w4.heap.size, 3, none⟩ = some (.int .i64 1) := cell_of_heap hq5
       clear hq5 hb5 hs5)
    | fail)
  have SE1 := set_any w1.heap.size w5 g b [] e0 e0_fits HI5.out
  rw [set0] at SE1
  have SE1 := Lib.hid SE1
  unfold ptr at SE1
  refine SE1.out.mono ?_
  rintro ex w6 ⟨rfl, hi6, ht6⟩
  have HI6 := Lib.hid hi6
  have HT6 := Lib.hid (HT5.out.turn ht6 (fun x hx h => by
    simp at h
    subst h
    rw [List.mem_cons, List.mem_append] at hx
    rcases hx with hx | hx | hx
    · exact (HSEP.out x (by simp [hx])).2 rfl
    · exact (HSEP.out x (by simp [hx])).2 rfl
    · simp [xobL, t1, r1, n1, rootE, asFile, zeroA, xob] at hx))
  have HB6 := Lib.hid (HB5.out.trans (ht6.below (fun y hy => by simp at hy; subst hy; have := HI5.out.baseb; have := HB1.out.size; omega) HB5.out.size))
  clear hi6 ht6 SE1 HI5 HT5 HI4 HT4 z0 z1 z2 z3
  have CH := changed_any w1.heap.size w6 g b [e0] HI6.out w.heap.size r (t1 p m q mm v) (fine1 _ _ _ _ _) (show 2 ≤ 1000000 by decide) HT6.out
  rw [chg1] at CH
  have CH := Lib.hid CH
  unfold ptr at CH
  go_wp2_with fail
  refine CH.out.mono ?_
  rintro ex w7 ⟨va, rfl, ho7, hb7⟩
  obtain ⟨va, ca, rfl⟩ := rowS_slice ho7
  have HI7 := Lib.hid (HI6.out.below hb7); have HT7 := Lib.hid (HT6.out.below hb7); have HB7 := Lib.hid (HB6.out.trans (hb7.mono HB6.out.size))
  clear ho7 hb7 CH HI6 HT6
  have WR := write_any w.heap.size w7 r (t1 p m q mm v) p0 [98] (by decide) (by decide) HT7.out
  rw [(write1 HPQ.out).1, (write1 HPQ.out).2] at WR
  have WR := Lib.hid WR
  unfold ptr at WR
  go_wp2_with fail
  refine WR.out.mono ?_
  rintro ex w8 ⟨rfl, ht8, hu8⟩
  have HT8 := Lib.hid ht8
  have HI8 := Lib.hid (index_turn HI7.out hu8 (fun h => (HSEP.out g h).1 rfl) (fun h => (HSEP.out b h).2 rfl))
  have HB8 := Lib.hid (HB7.out.trans (hu8.below (fun y hy => HT7.out.base y (by rw [List.mem_cons] at hy ⊢; exact hy.imp id (fun h => List.mem_append_left _ h))) HB7.out.size))
  clear ht8 hu8 WR HI7 HT7
  have CH := changed_any w1.heap.size w8 g b [e0] HI8.out w.heap.size r (t2 p m q mm v) (fine2 _ _ _ _ _) (show 2 ≤ 1000000 by decide) HT8.out
  rw [chg2] at CH
  have CH := Lib.hid CH
  unfold ptr at CH
  go_wp2_with fail
  refine CH.out.mono ?_
  rintro ex w9 ⟨vb, rfl, ho9, hb9⟩
  obtain ⟨gb, cb, rfl, _, _, _, hc9⟩ := rowS_form ho9 (by decide)
  have k9 : w9.cell? ⟨gb, 0, none⟩ = some (.string ⟨#[47, 102]⟩) := hc9 0 _ rfl
  have HB9 := Lib.hid (HB8.out.trans (hb9.mono HB8.out.size))
  clear ho9 hb9 hc9 CH
  go_wp2
  go_ret
  exact ⟨rfl, HB9.out⟩
end Go.Proofs.YthcjjekkjbidlaaGreatDoor.Sr
/-
  StatixBack: how its items, its two indexes and its map of last places lie.
-/
namespace Go.Proofs.YthcjjekkjbidlaaGreatDoor.St
open Go.RowKit Go.Maps Go.WideMaps Go.Proofs.YthcjjekkjbidlaaGreatDoor.Rf Go.Proofs.YthcjjekkjbidlaaGreatDoor.Rd

abbrev ItT : TypeId := 33
/-- A row of items that is only read. -/
def ItemsAt (w : World) (v : Value) (l : List It) : Prop :=
  ∃ a cap, v = .slice a l.length cap ∧ l.length ≤ maxLen ∧ (l ≠ [] → ∃ b o, a = some ⟨b, o, none⟩ ∧ b < w.heap.size ∧ ∀ (i : Nat) x, l[i]? = some x → w.rangeAt b (o + i * 7) x.cells) ∧ ∀ x ∈ l, x.Fits
def encI (n : Nat) : Value := .int .i64 (n : Int)
theorem zeroI64 (w : World) : (zeroValue 3).run Tryz.prog w = .ok (.int .i64 0) w := by kernel_rfl
structure BkSt (w : World) (gx bx : Nat) (Lx : List SE) (gy ey : Nat) (Ly : List SE) (bm : Nat) (M : MV Nat) (W : World) : Prop where
  ix : IndexAt w.heap.size W gx bx Lx
  iy : IndexAt w.heap.size W gy ey Ly
  im : W.ownsMap Tryz.prog 9 Rv bm 1000000 (toD encI M)
  mb : w.heap.size ≤ bm
  sep : gx ≠ ey ∧ gx ≠ bm ∧ bx ≠ gy ∧ bx ≠ ey ∧ bx ≠ bm ∧ gy ≠ bm ∧ ey ≠ bm
  be : Below w.heap.size w W
section
variable {w : World} {gx bx : Nat} {Lx : List SE} {gy ey : Nat} {Ly : List SE} {bm : Nat} {M : MV Nat} {W W' : World}
theorem BkSt.below (h : BkSt w gx bx Lx gy ey Ly bm M W) (hb : Below W.heap.size W W') : BkSt w gx bx Lx gy ey Ly bm M W' :=
  ⟨h.ix.below hb, h.iy.below hb, ownsMap_block h.im (hb.block _ h.im.lt), h.mb, h.sep, h.be.trans (hb.mono h.be.size)⟩
theorem BkSt.setx (h : BkSt w gx bx Lx gy ey Ly bm M W) {L' : List SE} (hi : IndexAt w.heap.size W' gx bx L') (ht : Turn [bx] W W') : BkSt w gx bx L' gy ey Ly bm M W' := by
  obtain ⟨s1, s2, s3, s4, s5, s6, s7⟩ := h.sep
  exact ⟨hi, Go.Proofs.YthcjjekkjbidlaaGreatDoor.Sr.index_turn h.iy ht (by simpa using Ne.symm s3) (by simpa using Ne.symm s4), ownsMap_block h.im (ht.block _ h.im.lt (by simpa using Ne.symm s5)), h.mb, h.sep,
    h.be.trans (ht.below (fun y hy => by simp at hy; subst hy; exact h.ix.baseb) h.be.size)⟩
theorem BkSt.sety (h : BkSt w gx bx Lx gy ey Ly bm M W) {L' : List SE} (hi : IndexAt w.heap.size W' gy ey L') (ht : Turn [ey] W W') : BkSt w gx bx Lx gy ey L' bm M W' := by
  obtain ⟨s1, s2, s3, s4, s5, s6, s7⟩ := h.sep
  exact ⟨Go.Proofs.YthcjjekkjbidlaaGreatDoor.Sr.index_turn h.ix ht (by simpa using s1) (by simpa using s4), hi, ownsMap_block h.im (ht.block _ h.im.lt (by simpa using Ne.symm s7)), h.mb, h.sep,
    h.be.trans (ht.below (fun y hy => by simp at hy; subst hy; exact h.iy.baseb) h.be.size)⟩
theorem BkSt.setm (h : BkSt w gx bx Lx gy ey Ly bm M W) {M' : MV Nat} (hi : W'.ownsMap Tryz.prog 9 Rv bm 1000000 (toD encI M')) (ht : Turn [bm] W W') : BkSt w gx bx Lx gy ey Ly bm M' W' := by
  obtain ⟨s1, s2, s3, s4, s5, s6, s7⟩ := h.sep
  exact ⟨Go.Proofs.YthcjjekkjbidlaaGreatDoor.Sr.index_turn h.ix ht (by simpa using s2) (by simpa using s5), Go.Proofs.YthcjjekkjbidlaaGreatDoor.Sr.index_turn h.iy ht (by simpa using s6) (by simpa using s7), hi, h.mb, h.sep,
    h.be.trans (ht.below (fun y hy => by simp at hy; subst hy; exact h.mb) h.be.size)⟩
end
/-- A place laid into the map. -/
theorem last_store {w : World} {b : Nat} {m : MV Nat} (h : w.ownsMap Tryz.prog 9 Rv b 1000000 (toD encI m)) (s : List UInt8) (hs : s.length ≤ maxLen) (n : Nat) (hl : (putM m s n).length ≤ 1000000) :
    ∃ w', (Instr.mapUpdate 112 (.map (some b)) (.string ⟨s.toArray⟩) (.int .i64 (n : Int))).run Tryz.prog w = .ok () w' ∧ w'.ownsMap Tryz.prog 9 Rv b 1000000 (toD encI (putM m s n)) ∧ Turn [b] w w' := by
  obtain ⟨w', hrun, hown, ht⟩ := h.store law Tryz.underlying112 (by decide) (val := encI n) (keyK ⟨s.toArray⟩ hs) rfl
  have t := ht.grown
  have hT : Turn [b] w w' := ⟨t.os, t.tape, t.output, t.size, fun k hk hx => t.block k hk (by simpa using hx)⟩
  have e1 : (⟨s.toArray⟩ : ByteArray).data.toList = s := by simp
  rw [e1, toD_put] at hown
  exact ⟨w', hrun, map_tight hown hl, hT⟩
theorem last_look {w : World} {b : Nat} {m : MV Nat} (h : w.ownsMap Tryz.prog 9 Rv b 1000000 (toD encI m)) (s : List UInt8) (hs : s.length ≤ maxLen) :
    (Instr.lookup 112 (.map (some b)) (.string ⟨s.toArray⟩) true).run Tryz.prog w = .ok (.tuple #[((getM m s).map encI).getD (.int .i64 0), .bool (getM m s).isSome]) w := by
  have := look_run Tryz.underlying112 zeroI64 h ⟨s.toArray⟩ hs
  rw [show (⟨s.toArray⟩ : ByteArray).data.toList = s from by simp] at this
  exact this
theorem put_len (m : MV Nat) (s : List UInt8) (n : Nat) : (putM m s n).length ≤ m.length + 1 := by
  rw [(put_perm s n m).length_eq, List.length_cons]
  have : (delM m s).length ≤ m.length := List.length_filter_le _ _
  omega
theorem infoIt (x : It) : (Tryz.prog.info? ItT).map (·.size) = some x.cells.length := by show _ = some 7; kernel_rfl
theorem wpList_last {w : World} {b : Nat} {m : MV Nat} (h : w.ownsMap Tryz.prog 9 Rv b 1000000 (toD encI m)) (s : List UInt8) (hs : s.length ≤ maxLen)
    {ops : Array Oper} {o : Oper} {rest : List Oper} {a : Act} {Q : Exit → Act → World → Prop} (hgd : o.guard = none) (x y : Operand) (ho : o.op = .lookup 112 x y true) (hx : a.eval x = .map (some b)) (hy : a.eval y = .string ⟨s.toArray⟩)
    (hk : wpList Tryz.prog ops Q rest (a.put o.dst (.tuple #[((getM m s).map encI).getD (.int .i64 0), .bool (getM m s).isSome])) w) : wpList Tryz.prog ops Q (o :: rest) a w := by
  exact wpList_plain hgd fun _ hK => by
    unfold Oper.wp
    simp [execOp, ho, hx, hy, last_look h s hs, Result.andThen]
    exact hK _ _ hk
end Go.Proofs.YthcjjekkjbidlaaGreatDoor.St
