import Derived.Test.YthcjjekkjbidlaaDoorZPSrFind
set_option linter.unusedSimpArgs false
set_option linter.unusedVariables false
/-
  The contract of touch.
-/
namespace Go.Proofs.YthcjjekkjbidlaaDoor.Sr
open Go.RowKit Go.Maps Go.WideMaps Go.Proofs.YthcjjekkjbidlaaDoor.Rf Go.Proofs.YthcjjekkjbidlaaDoor.Nm Go.Proofs.YthcjjekkjbidlaaDoor.St

theorem TreeAt.turn {B : Nat} {w w' : World} {r : Nat} {T : Tr} {X : List Nat} (h : TreeAt B w r T) (ht : Turn X w w') (hX : ∀ b ∈ r :: (ownL T.L ++ xobL T.L), b ∉ X) : TreeAt B w' r T :=
  h.kept ht.size (fun b hb => ht.block b (h.lt b hb) (hX b hb))
/-- One cell of a node is written. -/
theorem TreeAt.setNode {B : Nat} {w : World} {r : Nat} {T : Tr} (h : TreeAt B w r T) {e e' : TE} {j : Nat} {v : Value} (he : e ∈ T.L) (hn : e'.nm = e.nm) (hp : e'.p = e.p) (hm : e'.m = e.m) (hx : e'.at_.xs = e.at_.xs) (hxv : e'.xv = e.xv) (hno : e'.at_.node = e.at_.node)
    (hc : e.cells.toArray.setIfInBounds j v = e'.cells.toArray) : TreeAt B (w.setCell ⟨e.p, j, none⟩ v) r { T with L := updT e' T.L } := by
  have hxb : ∀ b ∈ xob e.at_.xs e.xv, b ∈ xobL T.L := fun b hb => List.mem_flatMap.2 ⟨e, he, hb⟩
  have hxp : ∀ b ∈ xob e.at_.xs e.xv, b ≠ e.p := fun b hb hbe => h.xoff b (hxb b hb) (hbe ▸ List.mem_cons_of_mem _ (ownL_mem he))
  refine h.put he hn hp hm (by rw [hno, hm]; exact h.kind e he) ?_ ?_ (fun b hb => ?_) (fun b hb hbe => Below.heap_setCell _ _ _ _ hbe) (Turn.refl [e.p] w |>.setCell (.inl (by simp)) _).size
  · rw [setCell_heap _ _ _ _ _ _ (h.node e he).cells, hc]
  · rw [hx, hxv]
    exact (h.node e he).xs.kept (Turn.refl [e.p] w |>.setCell (p := ⟨e.p, j, none⟩) (.inl (by simp)) v).size (fun b hb => Below.heap_setCell _ _ _ _ (hxp b hb))
  · rw [hx, hxv] at hb
    exact ⟨h.xoff b (hxb b hb), h.base b (by have := hxb b hb; simp [this])⟩
/-- The node at a block gets a tick. -/
def tick1 (q : Nat) (c : Int) (L : List TE) : List TE := L.map fun x => if x.p = q then { x with tick := c } else x
def tickT (qs : List Nat) (c : Int) (L : List TE) : List TE := qs.foldl (fun L q => tick1 q c L) L
theorem tick1_fine (q : Nat) (c : Int) (L : List TE) : ∀ x ∈ L, ((if x.p = q then { x with tick := c } else x) : TE).nm = x.nm ∧ ((if x.p = q then { x with tick := c } else x) : TE).p = x.p ∧ ((if x.p = q then { x with tick := c } else x) : TE).m = x.m := by
  intro x _; split <;> exact ⟨rfl, rfl, rfl⟩
theorem tick1_upd {L : List TE} {e : TE} (hinj : ∀ x ∈ L, x.p = e.p → x = e) (c : Int) : updT { e with tick := c } L = tick1 e.p c L := by
  rw [updT, tick1]
  refine List.map_congr_left (fun x hx => ?_)
  show (if x.p = e.p then _ else x) = _
  by_cases h : x.p = e.p
  · rw [if_pos h, if_pos h, hinj x hx h]
  · rw [if_neg h, if_neg h]
theorem own_tick1 (q : Nat) (c : Int) (L : List TE) : ownL (tick1 q c L) = ownL L := ownL_map (tick1_fine q c L)
theorem own_tickT (c : Int) : ∀ (qs : List Nat) (L : List TE), ownL (tickT qs c L) = ownL L
  | [], _ => rfl
  | q :: r, L => by
    show ownL (tickT r c (tick1 q c L)) = _
    rw [own_tickT c r, own_tick1]
theorem p_tickT (c : Int) : ∀ (qs : List Nat) (L : List TE) {q : Nat}, (∃ e ∈ L, e.p = q) → ∃ e ∈ tickT qs c L, e.p = q
  | [], _, _, h => h
  | a :: r, L, q, ⟨e, he, hq⟩ => p_tickT c r (tick1 a c L) ⟨_, List.mem_map.2 ⟨e, he, rfl⟩, by rw [(tick1_fine a c L e he).2.1]; exact hq⟩

/-- A row of pointers to nodes. -/
def PtrsAt (w : World) (v : Value) (qs : List Nat) : Prop :=
  ∃ a cap, v = .slice a qs.length cap ∧ qs.length ≤ 100 ∧ (qs ≠ [] → ∃ b o, a = some ⟨b, o, none⟩ ∧ b < w.heap.size ∧ ∀ (i : Nat) q, qs[i]? = some q → w.cell? ⟨b, o + i, none⟩ = some (ptr q))
set_option linter.unusedSimpArgs false in
set_option maxHeartbeats 4000000 in
set_option maxRecDepth 100000 in
theorem touch_any (B : Nat) (w : World) (r : Nat) (T : Tr) (v : Value) (qs : List Nat) (hv : PtrsAt w v qs) (ho : ∀ b o n c, v = .slice (some ⟨b, o, none⟩) n c → b ∉ r :: ownL T.L) (hq : ∀ q ∈ qs, ∃ e ∈ T.L, e.p = q) (hc : T.clock < 4611686018427387904) (h : TreeAt B w r T) :
    Calls Tryd.prog 42 #[ptr r, v] w fun e w' => e = .returned (.tuple #[]) ∧ TreeAt B w' r { T with clock := T.clock + 1, L := tickT qs ((T.clock + 1 : Nat) : Int) T.L } ∧ Turn (r :: ownL T.L) w w' := by
  obtain ⟨va, vc, rfl, hlm, hcell⟩ := hv
  obtain ⟨e0, he0, hq0⟩ := h.root
  have c1 : w.cell? ⟨r, 1, none⟩ = some (.int .i64 (T.clock : Int)) := cell_of_heap hq0
  have f1 : w.frozen? ⟨r, 1, none⟩ = false := frozen_of_heap hq0
  have HC := Lib.hid hcell; have HQ := Lib.hid hq; have HO := Lib.hid ho
  obtain ⟨c, hcc⟩ : ∃ c : Int, c = ((T.clock + 1 : Nat) : Int) := ⟨_, rfl⟩
  have hcc2 : c = (T.clock : Int) + 1 := by omega
  have h1 : TreeAt B (w.setCell ⟨r, 1, none⟩ (.int .i64 ((T.clock : Int) + 1))) r { T with clock := T.clock + 1 } := by
    refine h.head he0 (e := e0) (c := T.clock + 1) (m := T.most) (n := T.reads) ?_ (fun b hb => Below.heap_setCell _ _ _ _ ?_) (Turn.refl [r] w |>.setCell (p := ⟨r, 1, none⟩) (.inl (by simp)) _).size
    · rw [setCell_heap _ _ _ _ _ _ hq0]; rfl
    · rintro hbr
      have hbr : b = r := hbr
      subst hbr
      rcases List.mem_append.1 hb with hb | hb
      · exact h.r_own hb
      · exact h.xoff b hb (by simp)
  have HH1 : Hid (TreeAt B (w.setCell ⟨r, 1, none⟩ (.int .i64 ((T.clock : Int) + 1))) r { T with clock := T.clock + 1, L := tickT (qs.take 0) c T.L }) := Lib.hid h1
  have HT1 : Hid (Turn (r :: ownL T.L) w (w.setCell ⟨r, 1, none⟩ (.int .i64 ((T.clock : Int) + 1)))) := Lib.hid ((Turn.refl (r :: ownL T.L) w).setCell (.inl (by simp)) _)
  rw [← hcc]
  unfold ptr at *
  clear hq0 he0 hcell h h1 hq ho hcc
  have HCC := Lib.hid hcc2
  clear hcc2
  go_enter Tryd.func42, Tryd.ntmps42
  go_wp2
  go_loopw [15] (fun v15 wr => ∃ i : Nat, i ≤ qs.length ∧ v15 = .int .i64 (i : Int) ∧ Hid (TreeAt B wr r { T with clock := T.clock + 1, L := tickT (qs.take i) c T.L }) ∧ Hid (Turn (r :: ownL T.L) w wr)) (fun v15 _ => qs.length - (RowKit.intOf v15).toNat)
  case atStart => exact ⟨0, by omega, rfl, HH1, HT1⟩
  case round =>
    obtain ⟨i, hi, rfl, HA, HT⟩ := hrel
    by_cases hil : (i : Int) < (qs.length : Int)
    · have hi2 : i < qs.length := by omega
      obtain ⟨q, hq⟩ : ∃ q, qs[i]? = some q := ⟨_, List.getElem?_eq_getElem hi2⟩
      obtain ⟨b, o, rfl, hb, hcl⟩ := HC.out (fun h => by rw [h] at hi2; cases hi2)
      obtain ⟨e, he, rfl⟩ := p_tickT c (qs.take i) T.L (HQ.out q (List.mem_of_getElem? hq))
      have cq : wr.cell? ⟨b, o + i, none⟩ = some (.pointer (some ⟨e.p, 0, none⟩)) := (World.cell?_of_block (a := ⟨b, o + i, none⟩) (HT.out.block b hb (HO.out b o _ _ rfl))).trans (hcl i _ hq)
      obtain ⟨er, her, hqr⟩ := HA.out.root
      have cr : wr.cell? ⟨r, 1, none⟩ = some (.int .i64 ((T.clock : Int) + 1)) := cell_of_heap hqr
      have ce := (HA.out.node e he).cells
      have fe : wr.frozen? ⟨e.p, 1, none⟩ = false := frozen_of_heap ce
      have cx : wr.cell? ⟨e.p, 1, none⟩ = some (.int .i64 e.tick) := cell_of_heap ce
      have HN : Hid (TreeAt B (wr.setCell ⟨e.p, 1, none⟩ (.int .i64 ((T.clock : Int) + 1))) r { T with clock := T.clock + 1, L := tickT (qs.take (i + 1)) c T.L }) := Lib.hid (by
        have := HA.out.setNode (e := e) (e' := { e with tick := c }) (j := 1) (v := .int .i64 c) he rfl rfl rfl rfl rfl rfl rfl
        rw [← HCC.out]
        have e1 : tickT (qs.take (i + 1)) c T.L = updT { e with tick := c } (tickT (qs.take i) c T.L) := by
          rw [tick1_upd (fun x hx hxp => HA.out.p_inj hx he hxp), List.take_add_one, hq, tickT, List.foldl_append]; rfl
        rw [e1]
        exact this)
      have hqo : e.p ∈ ownL T.L := by
        have := ownL_mem he
        have e2 : ownL (tickT (qs.take i) c T.L) = ownL T.L := own_tickT _ _ _
        rw [← e2]; exact this
      have HTN : Hid (Turn (r :: ownL T.L) w (wr.setCell ⟨e.p, 1, none⟩ (.int .i64 ((T.clock : Int) + 1)))) := Lib.hid (HT.out.setCell (.inl (by simp [hqo])) _)
      clear hcl hq he her hqr ce hqo
      go_wp2
      go_roundw
      case rel => exact ⟨i + 1, by omega, by go_num, HN, HTN⟩
      case measure => simp [RowKit.intOf]; omega
    · obtain rfl : i = qs.length := by omega
      have HX := HA.out
      rw [List.take_length] at HX
      have HX := Lib.hid HX
      go_wp2
      exact bodyPost_end (results_none rfl _ _ _) rfl ⟨rfl, HX.out, HT.out⟩
end Go.Proofs.YthcjjekkjbidlaaDoor.Sr
/-
  The contract of Write.
-/
namespace Go.Proofs.YthcjjekkjbidlaaDoor.Sr
open Go.RowKit Go.Maps Go.WideMaps Go.Proofs.YthcjjekkjbidlaaDoor.Rf Go.Proofs.YthcjjekkjbidlaaDoor.Nm Go.Proofs.YthcjjekkjbidlaaDoor.St

/-- What Write answers, and what it makes of the tree. -/
def writeE (p d : List UInt8) (T : Tr) : Int :=
  if splitE p ≠ 0 then 10 else if 1048576 < d.length then 1 else match getT (splitL p) T.L with
    | none => 6
    | some n => if n.at_.node ≠ 1 then 11 else if 1099511627776 ≤ T.clock then 3 else 0
def writeT (p d : List UInt8) (T : Tr) : Tr :=
  if writeE p d T = 0 then match getT (splitL p) T.L with
    | none => T
    | some n => { T with clock := T.clock + 1, L := tickT [n.p] ((T.clock + 1 : Nat) : Int) (updT { n with data := d } T.L) }
  else T
/-- A call that turns a tree. -/
def TreePost (B : Nat) (w : World) (r : Nat) (T T' : Tr) (c : Int) (e : Ending) (w' : World) : Prop :=
  e = .returned (.int .i64 c) ∧ TreeAt B w' r T' ∧ Turn (r :: ownL T.L) w w'
theorem treePost_same {B : Nat} {w w' : World} {r : Nat} {T : Tr} {c : Int} {e : Ending} (h : TreeAt B w r T) (he : e = .returned (.int .i64 c)) (hb : Below w.heap.size w w') : TreePost B w r T T c e w' :=
  ⟨he, h.below hb, Turn.of_below hb⟩
set_option linter.unusedSimpArgs false in
set_option maxHeartbeats 8000000 in
set_option maxRecDepth 100000 in
theorem write_any (B : Nat) (w : World) (r : Nat) (T : Tr) (p d : List UInt8) (hp : p.length ≤ 4611686018427387904) (hd : d.length ≤ 4611686018427387904) (h : TreeAt B w r T) :
    Calls Tryd.prog 20 #[ptr r, .string ⟨p.toArray⟩, .string ⟨d.toArray⟩] w (TreePost B w r T (writeT p d T) (writeE p d T)) := by
  have FI := Lib.hid (find_any B w r T p hp h)
  have H := Lib.hid h
  have hds : (⟨d.toArray⟩ : ByteArray).size = d.length := rfl
  have HW : Hid (writeT p d T = if writeE p d T = 0 then match getT (splitL p) T.L with
    | none => T
    | some n => { T with clock := T.clock + 1, L := tickT [n.p] ((T.clock + 1 : Nat) : Int) (updT { n with data := d } T.L) }
    else T) := Lib.hid rfl
  have HE : Hid (writeE p d T = if splitE p ≠ 0 then 10 else if 1048576 < d.length then 1 else match getT (splitL p) T.L with
    | none => 6
    | some n => if n.at_.node ≠ 1 then 11 else if 1099511627776 ≤ T.clock then 3 else 0) := Lib.hid rfl
  generalize writeT p d T = T' at *
  generalize writeE p d T = c at *
  clear h
  unfold ptr at *
  go_enter Tryd.func20, Tryd.ntmps20
  go_wp2_with fail
  refine FI.out.mono ?_
  rintro ex w1 ⟨v, rfl, hp1, hb1⟩
  have HP := Lib.hid hp1; have HB := Lib.hid hb1
  obtain ⟨va, vc, rfl⟩ := rowS_slice hp1.row
  clear FI hp1 hb1
  rw [findE, findN]
  rcases splitE_cases p with h0 | ⟨h0, _⟩
  case inr =>
    have hc : c = 10 := by rw [HE.out, if_pos (by rw [h0]; decide)]
    have HT : Hid (T' = T) := Lib.hid (by rw [HW.out, if_neg (by rw [hc]; decide)])
    subst hc
    rw [if_neg (by rw [h0]; decide), if_neg (by rw [h0]; decide)]
    unfold ptrO
    clear h0 HE HW
    go_wp2
    go_ret
    rw [HT.out]
    exact treePost_same H.out rfl HB.out
  rw [if_pos h0, if_pos h0]
  by_cases hbig : 1048576 < d.length
  · have hc : c = 1 := by rw [HE.out, if_neg (by rw [h0]; decide), if_pos hbig]
    have HT : Hid (T' = T) := Lib.hid (by rw [HW.out, if_neg (by rw [hc]; decide)])
    have hbi : (1048576 : Int) < (d.length : Int) := by omega
    subst hc
    clear h0 HE HW hbig
    cases hg : getT (splitL p) T.L with
    | none =>
      unfold ptrO
      clear hg
      go_wp2
      go_ret
      rw [HT.out]
      exact treePost_same H.out rfl HB.out
    | some n =>
      unfold ptrO
      clear hg
      go_wp2
      go_ret
      rw [HT.out]
      exact treePost_same H.out rfl HB.out
  have hbi : ¬ (1048576 : Int) < (d.length : Int) := by omega
  have HE1 : Hid (c = match getT (splitL p) T.L with
    | none => 6
    | some n => if n.at_.node ≠ 1 then 11 else if 1099511627776 ≤ T.clock then 3 else 0) := Lib.hid (by rw [HE.out, if_neg (by rw [h0]; decide), if_neg hbig])
  clear HE hbig h0
  cases hg : getT (splitL p) T.L with
  | none =>
    have hc : c = 6 := by rw [HE1.out, hg]
    have HT : Hid (T' = T) := Lib.hid (by rw [HW.out, if_neg (by rw [hc]; decide)])
    subst hc
    unfold ptrO
    clear hg HE1 HW
    go_wp2
    go_ret
    rw [HT.out]
    exact treePost_same H.out rfl HB.out
  | some n =>
    have HE2 : Hid (c = if n.at_.node ≠ 1 then 11 else if 1099511627776 ≤ T.clock then 3 else 0) := Lib.hid (by rw [HE1.out, hg])
    have HW2 : Hid (T' = if c = 0 then { T with clock := T.clock + 1, L := tickT [n.p] ((T.clock + 1 : Nat) : Int) (updT { n with data := d } T.L) } else T) := Lib.hid (by rw [HW.out, hg])
    obtain ⟨hn, _⟩ := getT_nm hg
    have HN := Lib.hid hn
    have H1 := Lib.hid (H.out.below HB.out)
    have c2 : w1.cell? ⟨n.p, 2, none⟩ = some (.int .u8 (n.at_.node : Int)) := cell_of_heap (H1.out.node n hn).cells
    clear hg HE1 HW hn
    unfold ptrO
    by_cases h1 : n.at_.node = 1
    case neg =>
      have hc : c = 11 := by rw [HE2.out, if_pos h1]
      have HT : Hid (T' = T) := Lib.hid (by rw [HW2.out, if_neg (by rw [hc]; decide)])
      subst hc
      have hb : (((n.at_.node : Nat) : Int) == 1) = false := by rw [beq_eq_false_iff_ne]; omega
      have hb2 : (((n.at_.node : Nat) : Int) != 1) = true := by rw [bne, hb]; rfl
      clear HE2 HW2 h1
      go_wp2
      go_ret
      rw [HT.out]
      exact treePost_same H.out rfl HB.out
    have HE3 : Hid (c = if 1099511627776 ≤ T.clock then 3 else 0) := Lib.hid (by rw [HE2.out, if_neg (by simpa using h1)])
    rw [h1] at c2
    have ST := still_any B w1 r T H1.out
    unfold ptr at ST
    clear HE2 h1
    by_cases hst : 1099511627776 ≤ T.clock
    · have hc : c = 3 := by rw [HE3.out, if_pos hst]
      have HT : Hid (T' = T) := Lib.hid (by rw [HW2.out, if_neg (by rw [hc]; decide)])
      subst hc
      rw [decide_eq_true hst] at ST
      have ST := Lib.hid ST
      clear HE3 HW2 hst
      go_wp2_with fail
      refine ST.out.mono ?_
      rintro ex w2 ⟨rfl, hw2⟩
      obtain rfl : w1 = w2 := hw2.symm
      go_wp2
      go_ret
      rw [HT.out]
      exact treePost_same H.out rfl HB.out
    · have hc : c = 0 := by rw [HE3.out, if_neg hst]
      have HT : Hid (T' = { T with clock := T.clock + 1, L := tickT [n.p] ((T.clock + 1 : Nat) : Int) (updT { n with data := d } T.L) }) := Lib.hid (by rw [HW2.out, if_pos hc])
      subst hc
      rw [decide_eq_false hst] at ST
      have ST := Lib.hid ST
      have HCL : Hid (T.clock < 4611686018427387904) := Lib.hid (by omega)
      have cd : w1.cell? ⟨n.p, 9, none⟩ = some (.string ⟨n.data.toArray⟩) := cell_of_heap (H1.out.node n HN.out).cells
      have fd : w1.frozen? ⟨n.p, 9, none⟩ = false := frozen_of_heap (H1.out.node n HN.out).cells
      have HNX : Hid (TreeAt B (w1.setCell ⟨n.p, 9, none⟩ (.string ⟨d.toArray⟩)) r { T with L := updT { n with data := d } T.L }) := Lib.hid (H1.out.setNode (e' := { n with data := d }) HN.out rfl rfl rfl rfl rfl rfl rfl)
      have HTX : Hid (Turn (r :: ownL T.L) w (w1.setCell ⟨n.p, 9, none⟩ (.string ⟨d.toArray⟩))) := Lib.hid ((Turn.of_below HB.out).setCell (.inl (by have := ownL_mem HN.out; simp [this])) _)
      have hown : Hid (ownL (updT { n with data := d } T.L) = ownL T.L) := Lib.hid (ownL_map (updT_facts (fun x hx hxp => H.out.p_inj hx HN.out hxp) rfl rfl rfl))
      have HPN : Hid (∃ e ∈ updT { n with data := d } T.L, e.p = n.p) := Lib.hid ⟨_, List.mem_map.2 ⟨n, HN.out, rfl⟩, by rw [if_pos rfl]⟩
      clear HE3 HW2 hst
      go_wp2_with fail
      refine ST.out.mono ?_
      rintro ex w2 ⟨rfl, hw2⟩
      obtain rfl : w1 = w2 := hw2.symm
      go_wp2_with fail
      obtain ⟨W, hW⟩ : ∃ W, W = w1.setCell ⟨n.p, 9, none⟩ (.string ⟨d.toArray⟩) := ⟨_, rfl⟩
      have hWs : W.heap.size = w1.heap.size := by rw [hW, World.size_setCell]
      rw [← hW] at HNX HTX ⊢
      rw [← hWs]
      refine (touch_any B _ r { T with L := updT { n with data := d } T.L } _ [n.p] ?_ ?_ ?_ HCL.out (HNX.out.below ((Below.refl _ _).alloc (Nat.le_refl _) _))).mono ?_
      · refine ⟨some ⟨W.heap.size, 0, none⟩, 1, rfl, by simp, fun _ => ⟨W.heap.size, 0, rfl, by rw [one_size]; omega, fun i q hq => ?_⟩⟩
        match i, hq with
        | 0, hq =>
          obtain rfl := Option.some.inj hq
          exact cell_of_heap (MapKept.heap_alloc W _).1
      · intro b o n' c' hv hb
        injection hv with e1 _ _
        injection e1 with e1
        injection e1 with e1 _ _
        subst e1
        have := HNX.out.lt W.heap.size (by
          rw [List.mem_cons] at hb ⊢
          rcases hb with hb | hb
          · exact .inl hb
          · exact .inr (List.mem_append_left _ hb))
        omega
      · intro q hq
        rw [List.mem_singleton] at hq
        subst hq
        exact HPN.out
      · rintro ex w3 ⟨rfl, ht3, hu3⟩
        have HT3 := Lib.hid ht3; have HU3 := Lib.hid hu3
        clear ht3 hu3
        go_wp2
        go_ret
        rw [HT.out]
        refine ⟨rfl, HT3.out, ?_⟩
        have h5 := HU3.out
        rw [show ownL ({ T with L := updT { n with data := d } T.L } : Tr).L = ownL T.L from hown.out] at h5
        have h6 := (HTX.out.alloc (Obj.cells #[ptr n.p] 89))
        exact h6.trans h5 (fun y hy => .inl hy)
end Go.Proofs.YthcjjekkjbidlaaDoor.Sr
