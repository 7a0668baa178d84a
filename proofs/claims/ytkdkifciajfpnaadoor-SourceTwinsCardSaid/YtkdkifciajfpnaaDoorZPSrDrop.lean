import Derived.Test.YtkdkifciajfpnaaDoorZPSrChanged
set_option linter.unusedSimpArgs false
set_option linter.unusedVariables false
/-
  The contract of Drop.
-/
namespace Go.Proofs.YtkdkifciajfpnaaDoor.Sr
open Go.RowKit Go.Maps Go.WideMaps Go.Proofs.YtkdkifciajfpnaaDoor.Rf Go.Proofs.YtkdkifciajfpnaaDoor.Nm Go.Proofs.YtkdkifciajfpnaaDoor.St

/-- A call's answer, and what it leaves. -/
def CallPost (B : Nat) (w : World) (r : Nat) (T : Tr) (c : Int) (T' : Tr) (e : Ending) (w' : World) : Prop := e = .returned (.int .i64 c) ∧ CallT B w r T w' T'
theorem callPost_no {B : Nat} {w w' : World} {r : Nat} {T T' : Tr} {c k : Int} {e : Ending} (h : TreeAt B w r T) (hT : T' = T) (hc : c = k) (he : e = .returned (.int .i64 k)) (hb : Below w.heap.size w w') : CallPost B w r T c T' e w' := by
  subst hT hc; exact ⟨he, .same h hb⟩
/-- touch, of a row that the call lays. -/
theorem touch_row (B : Nat) (w : World) (r : Nat) (T : Tr) (qs : List Nat) (n : Nat) (hn : n = qs.length) (hl : qs.length ≤ 100) (hq : ∀ q ∈ qs, ∃ e ∈ T.L, e.p = q) (hc : T.clock < 4611686018427387904) (h : TreeAt B w r T) :
    Calls Tryd.prog 31 #[ptr r, .slice (some ⟨w.heap.size, 0, none⟩) n n] (w.alloc (.cells (qs.map ptr).toArray 52)) fun e w' => e = .returned (.tuple #[]) ∧ TreeAt B w' r { T with clock := T.clock + 1, L := tickT qs ((T.clock + 1 : Nat) : Int) T.L } ∧ Turn (r :: ownL T.L) w w' := by
  subst hn
  have hb : Below w.heap.size w (w.alloc (.cells (qs.map ptr).toArray 52)) := (Below.refl _ _).alloc (Nat.le_refl _) _
  have h1 := (MapKept.heap_alloc w (.cells (qs.map ptr).toArray 52)).1
  refine (touch_any B _ r T _ qs ⟨some ⟨w.heap.size, 0, none⟩, qs.length, rfl, hl, fun _ => ⟨w.heap.size, 0, rfl, by rw [one_size]; omega, fun i q hq => ?_⟩⟩ ?_ hq hc (h.below hb)).mono ?_
  · have h2 : (w.alloc (.cells (qs.map ptr).toArray 52)).cell? ⟨w.heap.size, i, none⟩ = (qs.map ptr).toArray[i]? := cell_of_heap h1
    rw [Nat.zero_add, h2, List.getElem?_toArray, List.getElem?_map, hq]; rfl
  · intro b o n' c' hv hbo
    injection hv with e1 _ _
    injection e1 with e1
    injection e1 with e1 _ _
    subst e1
    have := h.lt w.heap.size (by
      rw [List.mem_cons] at hbo ⊢
      rcases hbo with hbo | hbo
      · exact .inl hbo
      · exact .inr (List.mem_append_left _ hbo))
    omega
  · rintro e w' ⟨rfl, h3, h4⟩
    exact ⟨rfl, h3, (Turn.of_below hb).trans h4 (fun y hy => .inl hy)⟩
/-- A name taken out of a folder's map. -/
theorem kid_drop {w : World} {b : Nat} {m : MV Nat} (h : w.ownsMap Tryd.prog 9 Rv b 1000000 (toD ptr m)) (s : List UInt8) (hs : s.length ≤ maxLen) (ty : TypeId) :
    ∃ w', (Builtin.delete_ #[55, 9] ty #[.map (some b), .string ⟨s.toArray⟩]).run Tryd.prog w = .ok (.tuple #[]) w' ∧ w'.ownsMap Tryd.prog 9 Rv b 1000000 (toD ptr (delM m s)) ∧ Turn [b] w w' := by
  obtain ⟨w', hrun, hown, ht⟩ := h.drop law Tryd.underlying55 (keyK ⟨s.toArray⟩ hs) ty
  have t := ht.grown
  have hT : Turn [b] w w' := ⟨t.os, t.tape, t.output, t.size, fun k hk hx => t.block k hk (by simpa using hx)⟩
  have e1 : (⟨s.toArray⟩ : ByteArray).data.toList = s := by simp
  rw [e1, toD_del] at hown
  exact ⟨w', hrun, hown, hT⟩

def dropE (p : List UInt8) (T : Tr) : Int :=
  if splitE p ≠ 0 then 10 else match getT (splitL p) T.L with
    | none => 6
    | some _ => if splitL p = [] then 1 else if 1099511627776 ≤ T.clock then 3 else 0
def dropTr (p : List UInt8) (T : Tr) : Tr :=
  if dropE p T = 0 then match getT (splitL p).dropLast T.L with
    | none => T
    | some u => { T with clock := T.clock + 1, L := tickT [u.p] ((T.clock + 1 : Nat) : Int) (dropT (splitL p) T.L) }
  else T
theorem dropTr_no {p : List UInt8} {T : Tr} (h : dropE p T ≠ 0) : dropTr p T = T := if_neg h
/-- A node's folder. -/
theorem TreeAt.up {B : Nat} {w : World} {r : Nat} {T : Tr} (h : TreeAt B w r T) {n : TE} (hn : n ∈ T.L) (hne : n.nm ≠ []) : ∃ u ub sl, u ∈ T.L ∧ n.nm = u.nm ++ [sl] ∧ u.nm = n.nm.dropLast ∧ u.m = some ub ∧ getT n.nm.dropLast T.L = some u ∧ u.at_.node = 2 := by
  have h1 := (List.dropLast_concat_getLast hne).symm
  obtain ⟨u, hu, h2, h3⟩ := h.par n hn _ _ h1
  obtain ⟨ub, hub⟩ := Option.ne_none_iff_exists'.1 h3
  exact ⟨u, ub, n.nm.getLast hne, hu, by rw [h2]; exact h1, h2, hub, by rw [← h2]; exact getT_of h.srt hu, (h.kind u hu).2 h3⟩
set_option linter.unusedSimpArgs false in
set_option maxHeartbeats 8000000 in
set_option maxRecDepth 100000 in
theorem drop_any (B : Nat) (w : World) (r : Nat) (T : Tr) (p : List UInt8) (hp : p.length ≤ 4611686018427387904) (h : TreeAt B w r T) :
    Calls Tryd.prog 13 #[ptr r, .string ⟨p.toArray⟩] w (CallPost B w r T (dropE p T) (dropTr p T)) := by
  have FI := Lib.hid (find_any B w r T p hp h)
  have H := Lib.hid h
  clear h
  unfold ptr at *
  go_enter Tryd.func13, Tryd.ntmps13
  go_wp2_with fail
  refine FI.out.mono ?_
  rintro ex w1 ⟨v, rfl, hp1, hb1⟩
  have HP := Lib.hid hp1; have HB := Lib.hid hb1
  obtain ⟨va, vc, rfl⟩ := rowS_slice hp1.row
  clear FI hp1 hb1
  rw [findE, findN]
  rcases splitE_cases p with h0 | ⟨h0, _⟩
  case inr =>
    have hc : dropE p T = 10 := by rw [dropE, if_pos (by rw [h0]; decide)]
    have HT : Hid (dropTr p T = T) := Lib.hid (dropTr_no (by rw [hc]; decide))
    have HCC := Lib.hid hc
    rw [if_neg (by rw [h0]; decide), if_neg (by rw [h0]; decide)]
    unfold ptrO
    clear h0 hc
    go_wp2
    go_ret
    exact callPost_no H.out HT.out HCC.out rfl HB.out
  rw [if_pos h0, if_pos h0]
  have HE1 : Hid (dropE p T = match getT (splitL p) T.L with
    | none => 6
    | some _ => if splitL p = [] then 1 else if 1099511627776 ≤ T.clock then 3 else 0) := Lib.hid (by rw [dropE, if_neg (by rw [h0]; decide)])
  clear h0
  cases hg : getT (splitL p) T.L with
  | none =>
    have hc : dropE p T = 6 := by rw [HE1.out, hg]
    have HT : Hid (dropTr p T = T) := Lib.hid (dropTr_no (by rw [hc]; decide))
    have HCC := Lib.hid hc
    unfold ptrO
    clear hg hc HE1
    go_wp2
    go_ret
    exact callPost_no H.out HT.out HCC.out rfl HB.out
  | some n =>
    have HE2 : Hid (dropE p T = if splitL p = [] then 1 else if 1099511627776 ≤ T.clock then 3 else 0) := Lib.hid (by rw [HE1.out, hg])
    obtain ⟨hn, hnn⟩ := getT_nm hg
    have HN := Lib.hid hn; have HNN := Lib.hid hnn
    clear hg HE1 hn hnn
    unfold ptrO
    by_cases hl0 : splitL p = []
    · have hc : dropE p T = 1 := by rw [HE2.out, if_pos hl0]
      have HT : Hid (dropTr p T = T) := Lib.hid (dropTr_no (by rw [hc]; decide))
      have HCC := Lib.hid hc
      have hz : (splitL p).length = 0 := by rw [hl0]; rfl
      clear hc HE2 hl0
      rw [hz]
      go_wp2
      go_ret
      exact callPost_no H.out HT.out HCC.out rfl HB.out
    have HE3 : Hid (dropE p T = if 1099511627776 ≤ T.clock then 3 else 0) := Lib.hid (by rw [HE2.out, if_neg hl0])
    have hlp : 0 < (splitL p).length := List.length_pos_iff.2 hl0
    have hlp2 : (0 : Int) < ((splitL p).length : Int) := by omega
    have hlz : (((splitL p).length : Int) == 0) = false := by rw [beq_eq_false_iff_ne]; omega
    have H1 := Lib.hid (H.out.below HB.out)
    have ST := still_any B w1 r T H1.out
    unfold ptr at ST
    clear HE2
    by_cases hst : 1099511627776 ≤ T.clock
    · have hc : dropE p T = 3 := by rw [HE3.out, if_pos hst]
      have HT : Hid (dropTr p T = T) := Lib.hid (dropTr_no (by rw [hc]; decide))
      have HCC := Lib.hid hc
      rw [decide_eq_true hst] at ST
      have ST := Lib.hid ST
      clear HE3 hst hc hl0
      go_wp2_with fail
      refine ST.out.mono ?_
      rintro ex w2 ⟨rfl, hw2⟩
      obtain rfl : w1 = w2 := hw2.symm
      go_wp2
      go_ret
      exact callPost_no H.out HT.out HCC.out rfl HB.out
    have hc : dropE p T = 0 := by rw [HE3.out, if_neg hst]
    obtain ⟨u, ub, sl, hu, hnu, hun, hub, hgu, hu2⟩ := H.out.up HN.out (by rw [HNN.out]; exact hl0)
    rw [HNN.out] at hnu hun hgu
    have HT : Hid (dropTr p T = { T with clock := T.clock + 1, L := tickT [u.p] ((T.clock + 1 : Nat) : Int) (dropT (splitL p) T.L) }) := Lib.hid (by rw [dropTr, if_pos hc, hgu])
    have HAE : Hid (abvE (splitL p) T.L = 0) := Lib.hid (by rw [abvE, hgu]; simp [hu2])
    have HAN : Hid (abvN (splitL p) T.L = some u) := Lib.hid (by rw [abvN, hgu]; simp [hu2])
    have HCC := Lib.hid hc
    rw [decide_eq_false hst] at ST
    have ST := Lib.hid ST
    have AB := above_any B w.heap.size w1 r T (.slice va (splitL p).length vc) (splitL p) hl0 (splitL_short p) HP.out H1.out
    rw [HAE.out, HAN.out] at AB
    have AB := Lib.hid AB
    have HL0 := Lib.hid hl0
    have HCL : Hid (T.clock < 1099511627776) := Lib.hid (by omega)
    have HUM := Lib.hid hu; have HNU := Lib.hid hnu; have HUN := Lib.hid hun; have HUB := Lib.hid hub
    obtain ⟨gl, vc', hve, hgl, hgw, hgc, hrow⟩ := rowS_form HP.out.row (by omega)
    obtain ⟨rfl, rfl⟩ : va = some ⟨gl, 0, none⟩ ∧ vc = vc' := by injection hve with e1 _ e3; exact ⟨e1, e3⟩
    have hcm : vc ≤ 9223372036854775807 := by
      rcases HP.out.row with ⟨_, ⟨_, h0'⟩ | ⟨g', cap', cur, hv', _, _, h1, h2, _⟩⟩
      · omega
      · injection hv' with e1 e2 e3; rw [e3]; unfold maxLen at h2; exact h2
    have hlast : (splitL p)[(splitL p).length - 1]? = some sl := by rw [hnu, List.length_append]; simp
    have hcl : w1.cell? ⟨gl, (splitL p).length - 1, none⟩ = some (.string ⟨sl.toArray⟩) := hrow _ _ (by rw [List.getElem?_map, hlast]; rfl)
    have HSLL : Hid (sl.length ≤ maxLen) := Lib.hid (HP.out.len sl (List.mem_of_getElem? hlast))
    have hcu : w1.cell? ⟨u.p, 10, none⟩ = some (.map (some ub)) := by
      have : w1.cell? ⟨u.p, 10, none⟩ = some (mapV u.m) := cell_of_heap (H1.out.node u hu).cells
      rw [hub] at this; exact this
    have HS2 : Hid (w1.drew.cell? ⟨u.p, 10, none⟩ = some (.map (some ub)) ∧ w1.drew.cell? ⟨gl, (splitL p).length - 1, none⟩ = some (.string ⟨sl.toArray⟩)) := Lib.hid ⟨hcu, hcl⟩
    have hi1 : ((splitL p).length : Int) - 1 ≤ (vc : Int) := by omega
    have hi0 : (0 : Int) ≤ ((splitL p).length : Int) - 1 := by omega
    have hi3 : (1 : Int) ≤ ((splitL p).length : Int) := by omega
    have hi2 : ((splitL p).length : Int) - 1 < ((splitL p).length : Int) := by omega
    have hlm := splitL_short p
    have hwr : IntKind.i64.wrap (((splitL p).length : Int) - 1) = ((splitL p).length : Int) - 1 := by rw [IntKind.wrap_i64]; omega
    have htn : (((splitL p).length : Int) - 1).toNat = (splitL p).length - 1 := by omega
    have hmapu := ((H1.out.below (Below.refl _ _).drew).node u hu).kids ub hub
    obtain ⟨w3, hrun3, hmap3, ht3⟩ := kid_drop (w := w1.drew) hmapu sl HSLL.out 0
    have HT3 : Hid (Turn [ub] w1 w3) := Lib.hid ((Turn.of_below (Below.refl w1.heap.size w1).drew).trans ht3 (fun y hy => .inl hy))
    have HUO : Hid (ub ∈ ownL T.L) := Lib.hid (ownL_mem2 hu hub)
    have HUW : Hid (ub < w.heap.size) := Lib.hid (H.out.lt ub (by simp [HUO.out]))
    have HS3 : Hid (w3.cell? ⟨u.p, 10, none⟩ = some (.map (some ub)) ∧ w3.cell? ⟨gl, (splitL p).length - 1, none⟩ = some (.string ⟨sl.toArray⟩)) := Lib.hid (by
      refine ⟨(World.cell?_of_block (a := ⟨u.p, 10, none⟩) (HT3.out.block _ (H1.out.lt u.p (by have := ownL_mem hu; simp [this])) ?_)).trans hcu, (World.cell?_of_block (a := ⟨gl, (splitL p).length - 1, none⟩) (HT3.out.block _ hgl ?_)).trans hcl⟩
      · have hnd := own_nodE H.out.own_nod hu
        rw [ownE, List.nodup_cons, hub] at hnd
        simpa using hnd.1
      · have := HUW.out
        simp; omega)
    have HTI : Hid (TreeAt B w3 r { T with L := dropT (splitL p) T.L }) := Lib.hid (by
      rw [hnu]
      exact H1.out.del (n0 := u.nm) (s := sl) hu rfl hub hmap3 (fun b hb hne => HT3.out.block b (H1.out.lt b hb) (by simpa using hne)) HT3.out.size)
    have HUD : Hid (∃ e ∈ dropT (splitL p) T.L, e.p = u.p) := Lib.hid ⟨u, dropT_mem.2 ⟨hu, fun hpre => by rw [hnu] at hpre; have := hpre.length_le; rw [List.length_append] at this; simp only [List.length_cons, List.length_nil] at this; omega⟩, rfl⟩
    clear HE3 hst hc hl0 hmapu hmap3 ht3 hu hnu hun hub hgu hu2 hrow hve hlast hcl hcu
    unfold ptr ptrO at AB
    go_wp2_with fail
    refine ST.out.mono ?_
    rintro ex w2 ⟨rfl, hw2⟩
    obtain rfl : w1 = w2 := hw2.symm
    go_wp2_with fail
    refine AB.out.mono ?_
    rintro ex w2 ⟨rfl, hw2⟩
    obtain rfl : w1 = w2 := hw2.symm
    go_wp2
    refine wp_region_held_drew (S := (fun w' : World => w'.cell? ⟨u.p, 10, none⟩ = some (.map (some ub)) ∧ w'.cell? ⟨gl, (splitL p).length - 1, none⟩ = some (.string ⟨sl.toArray⟩))) (by kernel_rfl) HS2.out (fun hHeld => ?_)
    refine wpAnyH_take (i := 0) (v := ?_) rfl (by kernel_rfl) (by kernel_rfl) (by kernel_rfl) (fun _ _ _ h => h) (Or.inl ⟨by rfl, ?aa0⟩) hHeld ?_
    case aa0 =>
      intro wS hSw
      obtain ⟨k0, k1⟩ := hSw
      go_simp
      try with_reducible rfl
    try simp only [Act.put, List.getElem_toArray, List.getElem_cons_zero, List.getElem_cons_succ, List.setIfInBounds_toArray, List.set_cons_zero, List.set_cons_succ]
    refine wpAnyH_take (i := 1) (v := ?_) rfl (by kernel_rfl) (by kernel_rfl) (by kernel_rfl) (fun _ _ _ h => h) (Or.inl ⟨by rfl, ?aa1⟩) hHeld ?_
    case aa1 =>
      intro wS hSw
      obtain ⟨k0, k1⟩ := hSw
      go_simp
      try with_reducible rfl
    try simp only [Act.put, List.getElem_toArray, List.getElem_cons_zero, List.getElem_cons_succ, List.setIfInBounds_toArray, List.set_cons_zero, List.set_cons_succ]
    refine wpAnyH_take (i := 2) (v := ?_) rfl (by kernel_rfl) (by kernel_rfl) (by kernel_rfl) (fun _ _ _ h => h) (Or.inl ⟨by rfl, ?aa2⟩) hHeld ?_
    case aa2 =>
      intro wS hSw
      obtain ⟨k0, k1⟩ := hSw
      go_simp
      try with_reducible rfl
    try simp only [Act.put, List.getElem_toArray, List.getElem_cons_zero, List.getElem_cons_succ, List.setIfInBounds_toArray, List.set_cons_zero, List.set_cons_succ]
    refine wpAnyH_take (i := 3) (v := ?_) rfl (by kernel_rfl) (by kernel_rfl) (by kernel_rfl) (fun _ _ _ h => h) (Or.inl ⟨by rfl, ?aa3⟩) hHeld ?_
    case aa3 =>
      intro wS hSw
      obtain ⟨k0, k1⟩ := hSw
      go_simp
      try with_reducible rfl
    try simp only [Act.put, List.getElem_toArray, List.getElem_cons_zero, List.getElem_cons_succ, List.setIfInBounds_toArray, List.set_cons_zero, List.set_cons_succ]
    refine wpAnyH_take (i := 4) (v := ?_) rfl (by kernel_rfl) (by kernel_rfl) (by kernel_rfl) (fun _ _ _ h => h) (Or.inl ⟨by rfl, ?aa4⟩) hHeld ?_
    case aa4 =>
      intro wS hSw
      obtain ⟨k0, k1⟩ := hSw
      go_simp
      try with_reducible rfl
    try simp only [Act.put, List.getElem_toArray, List.getElem_cons_zero, List.getElem_cons_succ, List.setIfInBounds_toArray, List.set_cons_zero, List.set_cons_succ]
    refine wpAnyH_take (i := 5) (v := ?_) rfl (by kernel_rfl) (by kernel_rfl) (by kernel_rfl) (fun _ _ _ h => h) (Or.inl ⟨by rfl, ?aa5⟩) hHeld ?_
    case aa5 =>
      intro wS hSw
      obtain ⟨k0, k1⟩ := hSw
      go_simp
      try with_reducible rfl
    try simp only [Act.put, List.getElem_toArray, List.getElem_cons_zero, List.getElem_cons_succ, List.setIfInBounds_toArray, List.set_cons_zero, List.set_cons_succ]
    refine wpAnyH_take (i := 6) (v := ?_) rfl (by kernel_rfl) (by kernel_rfl) (by kernel_rfl) (fun _ _ _ h => h) (Or.inl ⟨by rfl, ?aa6⟩) hHeld ?_
    case aa6 =>
      intro wS hSw
      obtain ⟨k0, k1⟩ := hSw
      go_simp
      try with_reducible rfl
    try simp only [Act.put, List.getElem_toArray, List.getElem_cons_zero, List.getElem_cons_succ, List.setIfInBounds_toArray, List.set_cons_zero, List.set_cons_succ]
    refine wpAnyH_take (i := 7) (v := ?_) rfl (by kernel_rfl) (by kernel_rfl) (by kernel_rfl) (fun _ _ _ h => h) (Or.inl ⟨by rfl, ?aa7⟩) hHeld ?_
    case aa7 =>
      intro wS hSw
      obtain ⟨k0, k1⟩ := hSw
      go_simp
      try with_reducible rfl
    try simp only [Act.put, List.getElem_toArray, List.getElem_cons_zero, List.getElem_cons_succ, List.setIfInBounds_toArray, List.set_cons_zero, List.set_cons_succ]
    refine wpAnyH_take (i := 8) (v := ?_) rfl (by kernel_rfl) (by kernel_rfl) (by kernel_rfl) (fun _ _ _ h => h) (Or.inl ⟨by rfl, ?aa8⟩) hHeld ?_
    case aa8 =>
      intro wS hSw
      obtain ⟨k0, k1⟩ := hSw
      go_simp
      try with_reducible rfl
    try simp only [Act.put, List.getElem_toArray, List.getElem_cons_zero, List.getElem_cons_succ, List.setIfInBounds_toArray, List.set_cons_zero, List.set_cons_succ]
    refine wpAnyH_take (i := 9) (v := ?_) rfl (by kernel_rfl) (by kernel_rfl) (by kernel_rfl) (fun _ _ _ h => h) (Or.inl ⟨by rfl, ?aa9⟩) hHeld ?_
    case aa9 =>
      intro wS hSw
      obtain ⟨k0, k1⟩ := hSw
      go_simp
      try with_reducible rfl
    try simp only [Act.put, List.getElem_toArray, List.getElem_cons_zero, List.getElem_cons_succ, List.setIfInBounds_toArray, List.set_cons_zero, List.set_cons_succ]
    refine wpAnyH_ready (rs := [10]) (by kernel_rfl) (by simp) ?_
    refine AllReadyH.cons rfl (fun K hK => ?_) AllReadyH.nil
    go_simp
    refine hK.out _ _ HS3.out (fun hHeld2 => ?_)
    clear hK K hHeld
    have hHeld := hHeld2
    clear hHeld2
    try simp only [Act.put, List.getElem_toArray, List.getElem_cons_zero, List.getElem_cons_succ, List.setIfInBounds_toArray, List.set_cons_zero, List.set_cons_succ]
    refine wpAnyH_done (by kernel_rfl) ?_ _
    clear hHeld
    try simp only [Act.put, List.getElem_toArray, List.getElem_cons_zero, List.getElem_cons_succ, List.setIfInBounds_toArray, List.set_cons_zero, List.set_cons_succ]
    go_wp2_with fail
    refine (touch_row B w3 r { T with L := dropT (splitL p) T.L } [u.p] 1 rfl (by simp) (by intro q hq; rw [List.mem_singleton] at hq; subst hq; exact HUD.out) (by have := HCL.out; show T.clock < _; omega) HTI.out).mono ?_
    rintro ex w4 ⟨rfl, ht4, hu4⟩
    have HT4 := Lib.hid ht4; have HU4 := Lib.hid hu4
    clear ht4 hu4
    go_wp2
    go_ret
    rw [HT.out]
    have t1 : Turn (r :: ownL T.L) w w3 := (Turn.of_below (X := r :: ownL T.L) HB.out).trans HT3.out (fun y hy => .inl (by simp at hy; subst hy; have := HUO.out; simp [this]))
    have hdo : ∀ b, b ∈ ownL (dropT (splitL p) T.L) → b ∈ ownL T.L := fun b hb => (own_sub List.filter_sublist).mem hb
    have hdx : ∀ b, b ∈ xobL (dropT (splitL p) T.L) → b ∈ xobL T.L := fun b hb => xob_sub List.filter_sublist hb
    refine ⟨by rw [HCC.out]; rfl, HT4.out, t1.trans HU4.out (fun y hy => .inl ?_), fun b hb => .inl ?_, ?_⟩
    · rw [List.mem_cons] at hy ⊢
      rcases hy with hy | hy
      · exact .inl hy
      · exact .inr (hdo y hy)
    · rw [List.mem_append] at hb ⊢
      rcases hb with hb | hb
      · have hb : b ∈ ownL (tickT [u.p] _ (dropT (splitL p) T.L)) := hb
        rw [own_tickT] at hb
        exact .inl (hdo b hb)
      · obtain ⟨x', hx', hb⟩ := List.mem_flatMap.1 hb
        obtain ⟨x, hx, rfl | rfl⟩ := tickT_mem hx'
        · exact .inr (hdx b (List.mem_flatMap.2 ⟨_, hx, hb⟩))
        · exact .inr (hdx b (List.mem_flatMap.2 ⟨_, hx, hb⟩))
    · rw [← HNN.out]
      exact .del n u HN.out (by rw [HNN.out]; exact HL0.out) HUM.out (by rw [HNN.out]; exact HUN.out) HCL.out
end Go.Proofs.YtkdkifciajfpnaaDoor.Sr
