import Derived.Test.YtkeegnhjemhblaaGreatDoorZPRbPut
import Derived.Test.YtkeegnhjemhblaaGreatDoorZPRfBack
import Derived.Test.YtkeegnhjemhblaaGreatDoorZPRbCrc
import Derived.Great.BuildSlice
import Derived.BigQuiet
set_option linter.unusedSimpArgs false
set_option linter.unusedVariables false
/-
  How the reference's calls on a book end.
-/
namespace Go.Proofs.YtkeegnhjemhblaaGreatDoor.Rb
open Go.RowKit Go.Maps Go.WideMaps Go.Proofs.YtkeegnhjemhblaaGreatDoor.Rf

def zeroEn : Value := .agg (List.replicate 32 (Value.int .u8 0) ++ [Value.int .i64 0]).toArray
theorem infoEn : (Tryz.prog.info? EnT).map (fun i => (i.zero, i.size, i.bytes)) = some (some zeroEn, 33, 40) := by kernel_rfl
theorem zeroEn_size : zeroEn.cells.size = 33 := by kernel_rfl
theorem hold_row {w : World} {B : Nat} {e : TypeId} {s n : Nat} {v : Value} {xs : List Value} (h : w.ownsRow B e s v n xs) : HoldN w v n xs := by
  obtain ⟨h1, ⟨rfl, h2⟩ | ⟨g, cap, cur, rfl, a1, a2, a3, a4, a5, a6⟩⟩ := h
  · subst h2
    exact .inr ⟨0, rfl, rfl, List.eq_nil_of_length_eq_zero (by simpa using h1)⟩
  · refine .inl ⟨⟨g, 0, none⟩, cap, rfl, fun j u hj => ?_⟩
    rw [Addr.add_lit, Nat.zero_add, cell_of_heap a2]
    have hlt := (List.getElem?_eq_some_iff.1 hj).1
    rw [← a6, List.getElem?_take_of_lt (by omega), Array.getElem?_toList] at hj
    exact hj
theorem cellsL_one (l : List En) : ∀ u ∈ cellsL l, u.oneCell' = true := by
  intro u hu
  obtain ⟨e, _, hu⟩ := List.mem_flatMap.1 hu
  rw [En.cells, List.mem_append] at hu
  rcases hu with hu | hu
  · rw [Lib.byteCells, List.mem_map] at hu
    obtain ⟨b, _, rfl⟩ := hu; rfl
  · rw [List.mem_singleton] at hu; subst hu; rfl
section
variable {B : Nat} {w w5 w' : World} {r : Nat} {v x : Value} {Z : BM} {k : List UInt8} {l : List En} {c : Int} {e : Ending}
/-- A branch more, by put. -/
theorem rbPost_new (h : RBk B w r v Z) (hb : Below w.heap.size w w5) (hx : w5.ownsRow w.heap.size EnT 33 x l.length (cellsL l)) (ha : atN Z k = none) (he : e = .returned (.int .i64 c))
    (hp : ∃ v' wc, w' = wc.setCell ⟨r, 0, none⟩ v' ∧ Below w5.heap.size w5 wc ∧ wc.ownsRow w5.heap.size BrT 2 v' (Z.length + 1) (bcells (Z.take (putAt Z k) ++ (k, (x, l)) :: Z.drop (putAt Z k)))) :
    RBPost B w r v Z c (putM (plainB Z) k l) e w' := by
  obtain ⟨v', wc, rfl, hc, ho⟩ := hp
  have hr := lt_of_heap h.book
  have hs := hb.size
  have hz : putM Z k (x, l) = Z.take (putAt Z k) ++ (k, (x, l)) :: Z.drop (putAt Z k) := put_new ha
  have hlen : (putM Z k (x, l)).length = Z.length + 1 := by
    rw [hz, List.length_append, List.length_cons, List.length_take, List.length_drop]
    have : putAt Z k ≤ Z.length := by rw [putAt]; exact (List.takeWhile_prefix _).length_le
    omega
  rw [← hz, ← hlen] at ho
  have hge := rowS_ge hx
  obtain ⟨p1, p2, p3, p4⟩ := (h.below hb).put hc ho hs (fun p hp => by
    rcases mem_ins.1 hp with rfl | hp
    · exact .inr ⟨row_mono hx h.size, fun hc => by have := hge r hc; omega, hge⟩
    · exact .inl (mem_del.1 hp).1) (put_srt h.srt k (x, l))
  exact ⟨he, v', _, p1, plain_put Z k x l, ((Turn.of_below hb : Turn (r :: ob v) w w5).trans p2 (fun y hy => .inl (by rw [List.mem_singleton] at hy; rw [hy]; exact List.mem_cons_self ..))), p3, fun b hb2 => .inr (p4 b hb2)⟩
/-- A branch's entries written. -/
theorem rbPost_set {g n cc i : Nat} {x0 : Value} {l0 : List En} {w1 : World} (h : RBk B w r (.slice (some ⟨g, 0, none⟩) n cc) Z) (hn : n = Z.length) (ha : atN Z k = some i) (hi : Z[i]? = some (k, (x0, l0))) (hb : Below w.heap.size w w1) (hx : w1.ownsRow w.heap.size EnT 33 x l.length (cellsL l)) (he : e = .returned (.int .i64 c)) :
    RBPost B w r (.slice (some ⟨g, 0, none⟩) n cc) Z c (putM (plainB Z) k l) e (w1.setCell ⟨g, i * 2 + 1, none⟩ x) ∧ w1.frozen? ⟨g, i * 2 + 1, none⟩ = false ∧ ∃ z, w1.cell? ⟨g, i * 2 + 1, none⟩ = some z := by
  obtain ⟨p1, p2, p3, p4, p5⟩ := h.set hn hi hb hx (Nat.le_refl _)
  refine ⟨⟨he, _, _, p1, ?_, p2.mono (fun y hy => ?_), p3, fun b hb2 => .inl hb2⟩, p4, p5⟩
  · rw [← put_at h.srt ha (n := (x, l))]; exact plain_put Z k x l
  · rw [List.mem_singleton] at hy; rw [hy]; exact List.mem_cons_of_mem _ (by simp [ob, Value.ownBlock])
end
end Go.Proofs.YtkeegnhjemhblaaGreatDoor.Rb
/-
  The contract of the reference's Encode. Printed by genrb4.py.
-/
namespace Go.Proofs.YtkeegnhjemhblaaGreatDoor.Rb
open Go.RowKit Go.Maps Go.WideMaps Go.Proofs.YtkeegnhjemhblaaGreatDoor.Rf

/-- A branch's bytes. -/
def encP (p : List UInt8 × (Value × List En)) : List UInt8 := putText p.1 ++ sh p.2.2.length ++ encL p.2.2
theorem payload_eq {Z : BM} (h : SrtM Z) : payload (plainB Z) = sh Z.length ++ Z.flatMap encP := by
  have hs : SrtM (plainB Z) := (srt_map _).2 h
  rw [payload, names_srt hs, plain_length]
  congr 1
  rw [plainB, mapM', List.map_map, List.flatMap_map]
  have key : ∀ p ∈ Z, getM (plainB Z) p.1 = some p.2.2 := fun p hp => by
    rw [plain_get]
    have hk : ∀ {K : BM}, SrtM K → p ∈ K → getM K p.1 = some p.2 := by
      intro K
      induction K with
      | nil => intro _ h; cases h
      | cons y r ih =>
        intro hs h
        obtain ⟨h1, h2⟩ := List.pairwise_cons.1 hs
        rcases List.mem_cons.1 h with rfl | h
        · rw [getM, List.find?_cons]; simp
        · have hl := h1 _ h
          have hne : (y.1 == p.1) = false := by
            rw [beq_eq_false_iff_ne]
            intro e
            rw [e, lt_irr] at hl; cases hl
          rw [getM, List.find?_cons, hne]
          exact ih h2 h
    rw [hk h hp]; rfl
  have go : ∀ L : BM, (∀ p ∈ L, getM (plainB Z) p.1 = some p.2.2) → L.flatMap (fun a => encBr (plainB Z) a.1) = L.flatMap encP := by
    intro L
    induction L with
    | nil => intro _; rfl
    | cons y r ih =>
      intro h
      rw [List.flatMap_cons, List.flatMap_cons, ih (fun p hp => h p (by simp [hp])), encBr, h y (by simp)]; rfl
  exact go Z key
theorem encP_len {p : List UInt8 × (Value × List En)} (h1 : p.1.length ≤ 255) (h2 : p.2.2.length ≤ 4096) (h3 : ∀ e ∈ p.2.2, e.c.length = 32) : (encP p).length ≤ 200000 := by
  have a1 := encL_len h3
  have a2 := sh_length p.1.length; have a3 := sh_length p.2.2.length
  rw [encP, putText, List.length_append, List.length_append, List.length_append]; omega
theorem store_newR (w : World) (cs : Array Value) : ((w.alloc (.cells zer33 EnT)).setRow w.heap.size cs).heap[w.heap.size]? = some (.cells cs EnT) ∧ Below w.heap.size w ((w.alloc (.cells zer33 EnT)).setRow w.heap.size cs) := by
  refine ⟨setRow_heap _ _ _ _ _ _ (MapKept.heap_alloc w _).1, ?_⟩
  refine ((Below.refl _ w).alloc (Nat.le_refl _) (.cells zer33 EnT)).trans ⟨rfl, rfl, rfl, by simp [World.setRow], fun k hk => ?_⟩
  exact setRow_other _ _ _ _ (by omega)
set_option linter.unusedSimpArgs false in
set_option maxHeartbeats 16000000 in
set_option maxRecDepth 100000 in
theorem rencode_any (B : Nat) (w : World) (r : Nat) (v : Value) (Z : BM) (ok : OkB (plainB Z)) (h : RBk B w r v Z) :
    Calls Tryz.prog 46 #[ptr r] w fun e w' => e = .returned (.string ⟨(encodeB (plainB Z)).toArray⟩) ∧ Below w.heap.size w w' := by
  have hn : Z.length ≤ 64 := by rw [← plain_length]; exact ok.size
  have H := Lib.hid h
  have HK : Hid (∀ p ∈ Z, p.1.length ≤ 255 ∧ p.2.2 ≠ [] ∧ p.2.2.length ≤ 4096 ∧ ∀ e ∈ p.2.2, e.c.length = 32 ∧ 0 ≤ e.t ∧ e.t ≤ 1099511627776) := Lib.hid (fun p hp => ⟨ok.keys _ (plain_mem hp), ok.ne _ (plain_mem hp), ok.len _ (plain_mem hp), ok.ent _ (plain_mem hp)⟩)
  obtain ⟨va, vc, hv⟩ := rowS_slice h.row
  have KV : Hid (∀ w' : World, Below w.heap.size w w' → w'.cell? ⟨r, 0, none⟩ = some (.slice va Z.length vc)) := Lib.hid (fun w' hb => by rw [← hv]; exact cell_of_heap (h.below hb).book)
  have HV := Lib.hid hv
  have P0 := Lib.hid (ref_put w [] Z.length (by omega) (by simp))
  have HPL : Hid (encodeB (plainB Z) = frameN (sh Z.length ++ Z.flatMap encP)) := Lib.hid (by rw [encodeB, payload_eq h.srt])
  have hk0 := KV.out w (Below.refl _ _)
  obtain ⟨ENC, hENC⟩ : ∃ ENC, ENC = encodeB (plainB Z) := ⟨_, rfl⟩
  rw [← hENC] at HPL ⊢
  obtain ⟨s0, hs0⟩ : ∃ s0, s0 = sh Z.length := ⟨_, rfl⟩
  rw [List.nil_append, ← hs0] at P0
  rw [← hs0] at HPL
  have hs0l : s0.length ≤ 10 := by rw [hs0]; exact sh_length _
  have HLEN : Hid (∀ i, (s0 ++ (Z.take i).flatMap encP).length ≤ 20 + i * 200000) := Lib.hid (fun i => by
    have key : ∀ (L : BM), (∀ p ∈ L, p ∈ Z) → (L.flatMap encP).length ≤ L.length * 200000 := by
      intro L
      induction L with
      | nil => intro _; simp
      | cons y t ih =>
        intro hL
        have h1 := ih (fun p hp => hL p (by simp [hp]))
        obtain ⟨b1, _, b3, b4⟩ := HK.out y (hL y (by simp))
        have h2 := encP_len b1 b3 (fun e he => (b4 e he).1)
        rw [List.flatMap_cons, List.length_append, List.length_cons]; omega
    have := key (Z.take i) (fun p hp => List.mem_of_mem_take hp)
    rw [List.length_append]
    rw [List.length_take] at this
    have h3 : min i Z.length * 200000 ≤ i * 200000 := Nat.mul_le_mul_right _ (Nat.min_le_left ..)
    omega)
  clear h hv ok hENC hs0
  unfold ptr
  go_enter Tryz.func46, Tryz.ntmps46
  go_wp2_with fail
  refine P0.out.mono ?_
  rintro ex w1 ⟨rfl, hb1⟩
  have HB1 := Lib.hid hb1
  clear hb1 P0 hk0
  go_wp2
  go_loopw [3, 4] (fun v3 v4 wr => ∃ i : Nat, i ≤ Z.length ∧ v4 = .int .i64 (i : Int) ∧ v3 = .string ⟨(s0 ++ (Z.take i).flatMap encP).toArray⟩ ∧ Hid (Below w.heap.size w wr)) (fun _ v4 _ => Z.length - (RowKit.intOf v4).toNat)
  case atStart => exact ⟨0, Nat.zero_le _, rfl, by simp, HB1⟩
  case round =>
    obtain ⟨i, hi, rfl, rfl, HB⟩ := hrel
    obtain ⟨wo, hwo⟩ : ∃ wo, wo = wr := ⟨_, rfl⟩
    subst hwo
    have k0 := KV.out wo HB.out
    have hsl := HLEN.out i
    by_cases hil : (i : Int) < (Z.length : Int)
    · have hi2 : i < Z.length := by omega
      have h0 : (0 : Int) ≤ (i : Int) := by omega
      obtain ⟨p, hp⟩ : ∃ p, Z[i]? = some p := ⟨_, List.getElem?_eq_getElem hi2⟩
      obtain ⟨b1, b2, b3, b4⟩ := HK.out p (List.mem_of_getElem? hp)
      have hrow := H.out.each p (List.mem_of_getElem? hp)
      obtain ⟨m, hm⟩ : ∃ m, m = p.2.2.length := ⟨_, rfl⟩
      obtain ⟨ge, ce, hpv, hgl, _, hrc⟩ := rowS_form hrow (by intro e; exact b2 (List.eq_nil_of_length_eq_zero e))
      rw [← hm] at hpv
      obtain ⟨g, c, hvv, _⟩ := H.out.cells (by omega)
      rw [HV.out] at hvv
      injection hvv with e1 _ e3
      subst e1 e3
      have KC : Hid (∀ w' : World, Below w.heap.size w w' → w'.cell? ⟨r, 0, none⟩ = some (.slice (some ⟨g, 0, none⟩) Z.length vc) ∧ w'.cell? ⟨g, i * 2, none⟩ = some (.string ⟨p.1.toArray⟩) ∧ w'.cell? ⟨g, i * 2 + 1, none⟩ = some (.slice (some ⟨ge, 0, none⟩) m ce)) := Lib.hid (fun w' hb => by
        obtain ⟨g', c', hv', _, hc⟩ := (H.out.below hb).cells (by omega)
        rw [HV.out] at hv'
        injection hv' with e1 _ _
        injection e1 with e1
        injection e1 with e1
        subst e1
        obtain ⟨q1, q2⟩ := hc i p hp
        exact ⟨KV.out w' hb, q1, by rw [q2, hpv]⟩)
      have HTK : Hid (s0 ++ (Z.take (i + 1)).flatMap encP = (s0 ++ (Z.take i).flatMap encP) ++ encP p) := Lib.hid (by rw [List.take_add_one, List.flatMap_append, hp]; simp)
      obtain ⟨s, hs⟩ : ∃ s, s = s0 ++ (Z.take i).flatMap encP := ⟨_, rfl⟩
      rw [← hs] at hsl HTK
      rw [← hs]
      have HEP : Hid (encP p = putText p.1 ++ sh m ++ encL p.2.2) := Lib.hid (by rw [encP, ← hm])
      have hptl : (putText p.1).length ≤ 265 := by rw [putText, List.length_append]; have := sh_length p.1.length; omega
      have PT := Lib.hid (fun w' : World => ref_putText w' s p.1 (by omega) (by omega))
      have PP := Lib.hid (fun w' : World => ref_put w' (s ++ putText p.1) m (by omega) (by rw [List.length_append]; omega))
      have HRC := Lib.hid hrc; have HM := Lib.hid hm; have HA4 := Lib.hid b4
      have hmb : m ≤ 4096 := by rw [hm]; exact b3
      have hw1 : IntKind.u64.wrap (m : Int) = (m : Int) := by rw [IntKind.wrap_u64]; omega
      clear hp hrow hpv hrc hm b1 b2 b3 b4 hs
      go_upto_region 5 with (fail)
      refine wp_region_held_drew (S := (fun w' : World => w'.cell? ⟨r, 0, none⟩ = some (.slice (some ⟨g, 0, none⟩) Z.length vc) ∧ w'.cell? ⟨g, i * 2, none⟩ = some (.string ⟨p.1.toArray⟩) ∧ w'.cell? ⟨g, i * 2 + 1, none⟩ = some (.slice (some ⟨ge, 0, none⟩) m ce))) (by kernel_rfl) (KC.out _ HB.out.drew) (fun hHeld => ?_)
      refine wpAnyH_take (i := 0) (v := ?_) rfl (by kernel_rfl) (by kernel_rfl) (by kernel_rfl) (fun _ _ _ h => h) (Or.inl ⟨by rfl, ?e50⟩) hHeld ?_
      case e50 =>
        intro wS hSw
        obtain ⟨z0, z1, z2⟩ := hSw
        go_simp
        try with_reducible rfl
      try simp only [Act.put, List.getElem_toArray, List.getElem_cons_zero, List.getElem_cons_succ, List.setIfInBounds_toArray, List.set_cons_zero, List.set_cons_succ]
      refine wpAnyH_take (i := 1) (v := ?_) rfl (by kernel_rfl) (by kernel_rfl) (by kernel_rfl) (fun _ _ _ h => h) (Or.inl ⟨by rfl, ?e51⟩) hHeld ?_
      case e51 =>
        intro wS hSw
        obtain ⟨z0, z1, z2⟩ := hSw
        go_simp
        try with_reducible rfl
      try simp only [Act.put, List.getElem_toArray, List.getElem_cons_zero, List.getElem_cons_succ, List.setIfInBounds_toArray, List.set_cons_zero, List.set_cons_succ]
      refine wpAnyH_take (i := 2) (v := ?_) rfl (by kernel_rfl) (by kernel_rfl) (by kernel_rfl) (fun _ _ _ h => h) (Or.inl ⟨by rfl, ?e52⟩) hHeld ?_
      case e52 =>
        intro wS hSw
        obtain ⟨z0, z1, z2⟩ := hSw
        go_simp
        try with_reducible rfl
      try simp only [Act.put, List.getElem_toArray, List.getElem_cons_zero, List.getElem_cons_succ, List.setIfInBounds_toArray, List.set_cons_zero, List.set_cons_succ]
      refine wpAnyH_take (i := 3) (v := ?_) rfl (by kernel_rfl) (by kernel_rfl) (by kernel_rfl) (fun _ _ _ h => h) (Or.inl ⟨by rfl, ?e53⟩) hHeld ?_
      case e53 =>
        intro wS hSw
        obtain ⟨z0, z1, z2⟩ := hSw
        go_simp
        try with_reducible rfl
      try simp only [Act.put, List.getElem_toArray, List.getElem_cons_zero, List.getElem_cons_succ, List.setIfInBounds_toArray, List.set_cons_zero, List.set_cons_succ]
      refine wpAnyH_take (i := 4) (v := ?_) rfl (by kernel_rfl) (by kernel_rfl) (by kernel_rfl) (fun _ _ _ h => h) (Or.inl ⟨by rfl, ?e54⟩) hHeld ?_
      case e54 =>
        intro wS hSw
        obtain ⟨z0, z1, z2⟩ := hSw
        go_simp
        try with_reducible rfl
      try simp only [Act.put, List.getElem_toArray, List.getElem_cons_zero, List.getElem_cons_succ, List.setIfInBounds_toArray, List.set_cons_zero, List.set_cons_succ]
      refine wpAnyH_take (i := 5) (v := ?_) rfl (by kernel_rfl) (by kernel_rfl) (by kernel_rfl) (fun _ _ _ h => h) (Or.inl ⟨by rfl, ?e55⟩) hHeld ?_
      case e55 =>
        intro wS hSw
        obtain ⟨z0, z1, z2⟩ := hSw
        go_simp
        try with_reducible rfl
      try simp only [Act.put, List.getElem_toArray, List.getElem_cons_zero, List.getElem_cons_succ, List.setIfInBounds_toArray, List.set_cons_zero, List.set_cons_succ]
      refine wpAnyH_take (i := 6) (v := ?_) rfl (by kernel_rfl) (by kernel_rfl) (by kernel_rfl) (fun _ _ _ h => h) (Or.inl ⟨by rfl, ?e56⟩) hHeld ?_
      case e56 =>
        intro wS hSw
        obtain ⟨z0, z1, z2⟩ := hSw
        go_simp
        try with_reducible rfl
      try simp only [Act.put, List.getElem_toArray, List.getElem_cons_zero, List.getElem_cons_succ, List.setIfInBounds_toArray, List.set_cons_zero, List.set_cons_succ]
      refine wpAnyH_take (i := 7) (v := ?_) rfl (by kernel_rfl) (by kernel_rfl) (by kernel_rfl) (fun _ _ _ h => h) (Or.inl ⟨by rfl, ?e57⟩) hHeld ?_
      case e57 =>
        intro wS hSw
        obtain ⟨z0, z1, z2⟩ := hSw
        go_simp
        try with_reducible rfl
      try simp only [Act.put, List.getElem_toArray, List.getElem_cons_zero, List.getElem_cons_succ, List.setIfInBounds_toArray, List.set_cons_zero, List.set_cons_succ]
      refine wpAnyH_take (i := 8) (v := ?_) rfl (by kernel_rfl) (by kernel_rfl) (by kernel_rfl) (fun _ _ _ h => h) (Or.inl ⟨by rfl, ?e58⟩) hHeld ?_
      case e58 =>
        intro wS hSw
        obtain ⟨z0, z1, z2⟩ := hSw
        go_simp
        try with_reducible rfl
      try simp only [Act.put, List.getElem_toArray, List.getElem_cons_zero, List.getElem_cons_succ, List.setIfInBounds_toArray, List.set_cons_zero, List.set_cons_succ]
      refine wpAnyH_take (i := 10) (v := ?_) rfl (by kernel_rfl) (by kernel_rfl) (by kernel_rfl) (fun _ _ _ h => h) (Or.inl ⟨by rfl, ?e59⟩) hHeld ?_
      case e59 =>
        intro wS hSw
        obtain ⟨z0, z1, z2⟩ := hSw
        go_simp
        try with_reducible rfl
      try simp only [Act.put, List.getElem_toArray, List.getElem_cons_zero, List.getElem_cons_succ, List.setIfInBounds_toArray, List.set_cons_zero, List.set_cons_succ]
      refine wpAnyH_take (i := 11) (v := ?_) rfl (by kernel_rfl) (by kernel_rfl) (by kernel_rfl) (fun _ _ _ h => h) (Or.inl ⟨by rfl, ?e510⟩) hHeld ?_
      case e510 =>
        intro wS hSw
        obtain ⟨z0, z1, z2⟩ := hSw
        go_simp
        try with_reducible rfl
      try simp only [Act.put, List.getElem_toArray, List.getElem_cons_zero, List.getElem_cons_succ, List.setIfInBounds_toArray, List.set_cons_zero, List.set_cons_succ]
      refine wpAnyH_take (i := 12) (v := ?_) rfl (by kernel_rfl) (by kernel_rfl) (by kernel_rfl) (fun _ _ _ h => h) (Or.inl ⟨by rfl, ?e511⟩) hHeld ?_
      case e511 =>
        intro wS hSw
        obtain ⟨z0, z1, z2⟩ := hSw
        go_simp
        try with_reducible rfl
      try simp only [Act.put, List.getElem_toArray, List.getElem_cons_zero, List.getElem_cons_succ, List.setIfInBounds_toArray, List.set_cons_zero, List.set_cons_succ]
      refine wpAnyH_take (i := 13) (v := ?_) rfl (by kernel_rfl) (by kernel_rfl) (by kernel_rfl) (fun _ _ _ h => h) (Or.inl ⟨by rfl, ?e512⟩) hHeld ?_
      case e512 =>
        intro wS hSw
        obtain ⟨z0, z1, z2⟩ := hSw
        go_simp
        try with_reducible rfl
      try simp only [Act.put, List.getElem_toArray, List.getElem_cons_zero, List.getElem_cons_succ, List.setIfInBounds_toArray, List.set_cons_zero, List.set_cons_succ]
      refine wpAnyH_take (i := 14) (v := ?_) rfl (by kernel_rfl) (by kernel_rfl) (by kernel_rfl) (fun _ _ _ h => h) (Or.inl ⟨by rfl, ?e513⟩) hHeld ?_
      case e513 =>
        intro wS hSw
        obtain ⟨z0, z1, z2⟩ := hSw
        go_simp
        try with_reducible rfl
      try simp only [Act.put, List.getElem_toArray, List.getElem_cons_zero, List.getElem_cons_succ, List.setIfInBounds_toArray, List.set_cons_zero, List.set_cons_succ]
      refine wpAnyH_take (i := 15) (v := ?_) rfl (by kernel_rfl) (by kernel_rfl) (by kernel_rfl) (fun _ _ _ h => h) (Or.inl ⟨by rfl, ?e514⟩) hHeld ?_
      case e514 =>
        intro wS hSw
        obtain ⟨z0, z1, z2⟩ := hSw
        go_simp
        try with_reducible rfl
      try simp only [Act.put, List.getElem_toArray, List.getElem_cons_zero, List.getElem_cons_succ, List.setIfInBounds_toArray, List.set_cons_zero, List.set_cons_succ]
      refine wpAnyH_take (i := 16) (v := ?_) rfl (by kernel_rfl) (by kernel_rfl) (by kernel_rfl) (fun _ _ _ h => h) (Or.inl ⟨by rfl, ?e515⟩) hHeld ?_
      case e515 =>
        intro wS hSw
        obtain ⟨z0, z1, z2⟩ := hSw
        go_simp
        try with_reducible rfl
      try simp only [Act.put, List.getElem_toArray, List.getElem_cons_zero, List.getElem_cons_succ, List.setIfInBounds_toArray, List.set_cons_zero, List.set_cons_succ]
      refine wpAnyH_take (i := 17) (v := ?_) rfl (by kernel_rfl) (by kernel_rfl) (by kernel_rfl) (fun _ _ _ h => h) (Or.inl ⟨by rfl, ?e516⟩) hHeld ?_
      case e516 =>
        intro wS hSw
        obtain ⟨z0, z1, z2⟩ := hSw
        go_simp
        try with_reducible rfl
      try simp only [Act.put, List.getElem_toArray, List.getElem_cons_zero, List.getElem_cons_succ, List.setIfInBounds_toArray, List.set_cons_zero, List.set_cons_succ]
      refine wpAnyH_take (i := 18) (v := ?_) rfl (by kernel_rfl) (by kernel_rfl) (by kernel_rfl) (fun _ _ _ h => h) (Or.inl ⟨by rfl, ?e517⟩) hHeld ?_
      case e517 =>
        intro wS hSw
        obtain ⟨z0, z1, z2⟩ := hSw
        go_simp
        try with_reducible rfl
      try simp only [Act.put, List.getElem_toArray, List.getElem_cons_zero, List.getElem_cons_succ, List.setIfInBounds_toArray, List.set_cons_zero, List.set_cons_succ]
      refine wpAnyH_take (i := 19) (v := ?_) rfl (by kernel_rfl) (by kernel_rfl) (by kernel_rfl) (fun _ _ _ h => h) (Or.inl ⟨by rfl, ?e518⟩) hHeld ?_
      case e518 =>
        intro wS hSw
        obtain ⟨z0, z1, z2⟩ := hSw
        go_simp
        try with_reducible rfl
      try simp only [Act.put, List.getElem_toArray, List.getElem_cons_zero, List.getElem_cons_succ, List.setIfInBounds_toArray, List.set_cons_zero, List.set_cons_succ]
      refine wpAnyH_ready (rs := [9]) (by kernel_rfl) (by simp) ?_
      refine AllReadyH.cons rfl (fun K hK => ?_) AllReadyH.nil
      go_simp
      refine (PT.out _).mono ?_
      rintro ex w4 ⟨rfl, hb4⟩
      have HB4 : Hid (Below wo.heap.size wo w4) := Lib.hid ((Below.refl _ wo).drew.trans hb4)
      clear hb4
      go_wp2_with fail
      refine hK.out _ _ (KC.out _ (HB.out.trans (HB4.out.mono HB.out.size))) (fun hHeld2 => ?_)
      clear hK K hHeld
      have hHeld := hHeld2
      clear hHeld2
      try simp only [Act.put, List.getElem_toArray, List.getElem_cons_zero, List.getElem_cons_succ, List.setIfInBounds_toArray, List.set_cons_zero, List.set_cons_succ]
      refine wpAnyH_ready (rs := [20]) (by kernel_rfl) (by simp) ?_
      refine AllReadyH.cons rfl (fun K hK => ?_) AllReadyH.nil
      go_simp
      refine (PP.out w4).mono ?_
      rintro ex w5 ⟨rfl, hb5⟩
      have HB5 : Hid (Below wo.heap.size wo w5) := Lib.hid (HB4.out.trans (hb5.mono HB4.out.size))
      clear hb5
      go_wp2_with fail
      refine hK.out _ _ (KC.out _ (HB.out.trans (HB5.out.mono HB.out.size))) (fun hHeld2 => ?_)
      clear hK K hHeld
      have hHeld := hHeld2
      clear hHeld2
      try simp only [Act.put, List.getElem_toArray, List.getElem_cons_zero, List.getElem_cons_succ, List.setIfInBounds_toArray, List.set_cons_zero, List.set_cons_succ]
      refine wpAnyH_take (i := 21) (v := ?_) rfl (by kernel_rfl) (by kernel_rfl) (by kernel_rfl) (fun _ _ _ h => h) (Or.inl ⟨by rfl, ?e521⟩) hHeld ?_
      case e521 =>
        intro wS hSw
        obtain ⟨z0, z1, z2⟩ := hSw
        go_simp
        try with_reducible rfl
      try simp only [Act.put, List.getElem_toArray, List.getElem_cons_zero, List.getElem_cons_succ, List.setIfInBounds_toArray, List.set_cons_zero, List.set_cons_succ]
      refine wpAnyH_done (by kernel_rfl) ?_ _
      clear hHeld
      try simp only [Act.put, List.getElem_toArray, List.getElem_cons_zero, List.getElem_cons_succ, List.setIfInBounds_toArray, List.set_cons_zero, List.set_cons_succ]
      go_wp2
      go_loopw [3, 5] (fun v3 v5 wr => ∃ (j : Nat) (Q : List UInt8), j ≤ m ∧ v5 = .int .i64 (j : Int) ∧ v3 = .string ⟨Q.toArray⟩ ∧ Hid (Below wo.heap.size wo wr) ∧ Hid (Q = s ++ (putText p.1 ++ (sh m ++ encL (p.2.2.take j))))) (fun _ v5 _ => m - (RowKit.intOf v5).toNat)
      case atStart => exact ⟨0, s ++ putText p.1 ++ sh m, by omega, rfl, by simp, HB5, Lib.hid (by simp [encL])⟩
      case round =>
        obtain ⟨j, Q, hj, rfl, rfl, HBQ, HQ⟩ := hrel
        have HBW : Hid (Below w.heap.size w wr) := Lib.hid (HB.out.trans (HBQ.out.mono HB.out.size))
        obtain ⟨z0, z1, z2⟩ := KC.out wr HBW.out
        have hQl : Q.length ≤ 14000000 := by
          have h1 := encL_len (l := p.2.2.take j) (fun e he => (HA4.out e (List.mem_of_mem_take he)).1)
          have h2 := sh_length m
          rw [List.length_take] at h1
          rw [HQ.out, List.length_append, List.length_append, List.length_append]
          omega
        by_cases hjm : (j : Int) < (m : Int)
        · have hjl : j < p.2.2.length := by rw [← HM.out]; omega
          have hj0 : (0 : Int) ≤ (j : Int) := by omega
          obtain ⟨e, he⟩ : ∃ e, e = p.2.2[j] := ⟨_, rfl⟩
          obtain ⟨ec, et0, et1⟩ := HA4.out e (by rw [he]; exact List.getElem_mem hjl)
          have HCS : Hid (e.cells.length = 33) := Lib.hid (cells_size ec)
          have HRG : Hid (wr.rangeAt ge (j * 33) e.cells) := Lib.hid (fun t v hv => (HBW.out.cell (p := ⟨ge, j * 33 + t, none⟩) hgl).trans (HRC.out _ _ (cellsL_at (fun e he => (HA4.out e he).1) (by rw [List.getElem?_eq_getElem hjl, ← he]) hv)))
          have HI : Hid ((Tryz.prog.info? 89).map (·.size) = some e.cells.length) := Lib.hid (by rw [HCS.out]; kernel_rfl)
          have HI2 : Hid ((Tryz.prog.info? 89).map (·.size) = some e.cells.toArray.size) := Lib.hid (by rw [List.size_toArray]; exact HI.out)
          have HS2 : Hid (zer33.size = e.cells.toArray.size) := Lib.hid (by show 33 = _; rw [List.size_toArray]; exact HCS.out.symm)
          have HONE : Hid (e.cells.toArray.all (·.oneCell') = true) := Lib.hid (Array.all_eq_true_iff_forall_mem.2 (fun u hu => cellsL_one [e] u (by simpa [cellsL] using hu)))
          have HE := Lib.hid he
          clear he
          go_wp2_with (first
            | (refine wpList_load_mid rfl _ _ rfl ge (j * 33) rfl e.cells _ HRG.out Tryz.underlying89 rfl HI.out ?_)
            | (refine wpList_store_row rfl _ _ _ rfl wr.heap.size e.cells.toArray rfl rfl 89 zer33 (MapKept.heap_alloc wr (.cells zer33 89)).1 HI2.out HS2.out HONE.out ?_
               obtain ⟨hq6, hb6⟩ := store_newR wr e.cells.toArray
               change wpList _ _ _ _ _ ((wr.alloc (.cells zer33 89)).setRow wr.heap.size e.cells.toArray)
               generalize (wr.alloc (.cells zer33 89)).setRow wr.heap.size e.cells.toArray = w6 at hq6 hb6 ⊢
               have HQ6 := Lib.hid hq6; have HB6 := Lib.hid hb6
               clear hq6 hb6))
          obtain ⟨tn, htn⟩ : ∃ tn : Nat, e.t = (tn : Int) := ⟨e.t.toNat, by omega⟩
          have HS10 : Hid (∀ w' : World, Below w6.heap.size w6 w' → w'.cell? ⟨wr.heap.size, 32, none⟩ = some (.int .i64 (tn : Int)) ∧ (convert 82 9 (.slice (some ⟨wr.heap.size, 0, none⟩) 32 32)).run Tryz.prog w' = .ok (.string ⟨e.c.toArray⟩) w') := Lib.hid (fun w' hb => by
            have hw' := (hb.block _ (lt_of_heap HQ6.out)).trans HQ6.out
            refine ⟨?_, ?_⟩
            · rw [cell_of_heap hw', List.getElem?_toArray, En.cells, List.getElem?_append_right (by rw [Lib.byteCells_length, ec]; omega), Lib.byteCells_length, ec, htn]; rfl
            · have := conv_row (w := w') (g := wr.heap.size) (o := 0) (c := 32) e.c (fun t v hv => by
                rw [Nat.zero_add]
                refine (cell_of_heap hw').trans ?_
                rw [List.getElem?_toArray, En.cells, List.getElem?_append_left (List.getElem?_eq_some_iff.1 hv).1]; exact hv)
              rwa [ec] at this)
          have hsl2 := fun w => slice32 w wr.heap.size
          have PE := Lib.hid (fun w' : World => ref_put w' (Q ++ e.c) tn (by omega) (by rw [List.length_append, ec]; omega))
          have hecs : (⟨e.c.toArray⟩ : ByteArray).size = 32 := ec
          have hqs : (⟨Q.toArray⟩ : ByteArray).size = Q.length := rfl
          have hcat := cat_list ⟨Q.toArray⟩ e.c
          have hwt : IntKind.u64.wrap (tn : Int) = (tn : Int) := by rw [IntKind.wrap_u64]; omega
          have hnl : Q.length ≤ 9223372036854775775 := by omega
          have hnl2 : (9223372036854775807 < Q.length + 32) = False := eq_false (by omega)
          have HTN := Lib.hid htn; have HEC := Lib.hid ec
          clear htn ec et0 et1 z0 z1 z2
          go_upto_region 10 with (fail)
          refine wp_region_held_drew (S := (fun w' : World => w'.cell? ⟨wr.heap.size, 32, none⟩ = some (.int .i64 (tn : Int)) ∧ (convert 82 9 (.slice (some ⟨wr.heap.size, 0, none⟩) 32 32)).run Tryz.prog w' = .ok (.string ⟨e.c.toArray⟩) w')) (by kernel_rfl) (HS10.out _ (Below.refl _ w6).drew) (fun hHeld => ?_)
          refine wpAnyH_take (i := 0) (v := ?_) rfl (by kernel_rfl) (by kernel_rfl) (by kernel_rfl) (fun _ _ _ h => h) (Or.inl ⟨by rfl, ?e100⟩) hHeld ?_
          case e100 =>
            intro wS hSw
            obtain ⟨z0, z1⟩ := hSw
            go_simp
            try with_reducible rfl
          try simp only [Act.put, List.getElem_toArray, List.getElem_cons_zero, List.getElem_cons_succ, List.setIfInBounds_toArray, List.set_cons_zero, List.set_cons_succ]
          refine wpAnyH_take (i := 1) (v := ?_) rfl (by kernel_rfl) (by kernel_rfl) (by kernel_rfl) (fun _ _ _ h => h) (Or.inl ⟨by rfl, ?e101⟩) hHeld ?_
          case e101 =>
            intro wS hSw
            obtain ⟨z0, z1⟩ := hSw
            go_simp
            try with_reducible rfl
          try simp only [Act.put, List.getElem_toArray, List.getElem_cons_zero, List.getElem_cons_succ, List.setIfInBounds_toArray, List.set_cons_zero, List.set_cons_succ]
          refine wpAnyH_take (i := 2) (v := ?_) rfl (by kernel_rfl) (by kernel_rfl) (by kernel_rfl) (fun _ _ _ h => h) (Or.inl ⟨by rfl, ?e102⟩) hHeld ?_
          case e102 =>
            intro wS hSw
            obtain ⟨z0, z1⟩ := hSw
            go_simp
            try with_reducible rfl
          try simp only [Act.put, List.getElem_toArray, List.getElem_cons_zero, List.getElem_cons_succ, List.setIfInBounds_toArray, List.set_cons_zero, List.set_cons_succ]
          refine wpAnyH_take (i := 3) (v := ?_) rfl (by kernel_rfl) (by kernel_rfl) (by kernel_rfl) (fun _ _ _ h => h) (Or.inl ⟨by rfl, ?e103⟩) hHeld ?_
          case e103 =>
            intro wS hSw
            obtain ⟨z0, z1⟩ := hSw
            go_simp
            try with_reducible rfl
          try simp only [Act.put, List.getElem_toArray, List.getElem_cons_zero, List.getElem_cons_succ, List.setIfInBounds_toArray, List.set_cons_zero, List.set_cons_succ]
          refine wpAnyH_take (i := 4) (v := ?_) rfl (by kernel_rfl) (by kernel_rfl) (by kernel_rfl) (fun _ _ _ h => h) (Or.inl ⟨by rfl, ?e104⟩) hHeld ?_
          case e104 =>
            intro wS hSw
            obtain ⟨z0, z1⟩ := hSw
            go_simp
            try with_reducible rfl
          try simp only [Act.put, List.getElem_toArray, List.getElem_cons_zero, List.getElem_cons_succ, List.setIfInBounds_toArray, List.set_cons_zero, List.set_cons_succ]
          refine wpAnyH_take (i := 5) (v := ?_) rfl (by kernel_rfl) (by kernel_rfl) (by kernel_rfl) (fun _ _ _ h => h) (Or.inl ⟨by rfl, ?e105⟩) hHeld ?_
          case e105 =>
            intro wS hSw
            obtain ⟨z0, z1⟩ := hSw
            go_simp
            try with_reducible rfl
          try simp only [Act.put, List.getElem_toArray, List.getElem_cons_zero, List.getElem_cons_succ, List.setIfInBounds_toArray, List.set_cons_zero, List.set_cons_succ]
          refine wpAnyH_take (i := 6) (v := ?_) rfl (by kernel_rfl) (by kernel_rfl) (by kernel_rfl) (fun _ _ _ h => h) (Or.inl ⟨by rfl, ?e106⟩) hHeld ?_
          case e106 =>
            intro wS hSw
            obtain ⟨z0, z1⟩ := hSw
            go_simp
            try with_reducible rfl
          try simp only [Act.put, List.getElem_toArray, List.getElem_cons_zero, List.getElem_cons_succ, List.setIfInBounds_toArray, List.set_cons_zero, List.set_cons_succ]
          refine wpAnyH_take (i := 7) (v := ?_) rfl (by kernel_rfl) (by kernel_rfl) (by kernel_rfl) (fun _ _ _ h => h) (Or.inl ⟨by rfl, ?e107⟩) hHeld ?_
          case e107 =>
            intro wS hSw
            obtain ⟨z0, z1⟩ := hSw
            go_simp
            try with_reducible rfl
          try simp only [Act.put, List.getElem_toArray, List.getElem_cons_zero, List.getElem_cons_succ, List.setIfInBounds_toArray, List.set_cons_zero, List.set_cons_succ]
          refine wpAnyH_ready (rs := [8]) (by kernel_rfl) (by simp) ?_
          refine AllReadyH.cons rfl (fun K hK => ?_) AllReadyH.nil
          go_simp
          refine (PE.out _).mono ?_
          rintro ex w7 ⟨rfl, hb7⟩
          have HB7 : Hid (Below w6.heap.size w6 w7) := Lib.hid ((Below.refl _ w6).drew.trans hb7)
          clear hb7
          go_wp2_with fail
          refine hK.out _ _ (HS10.out w7 HB7.out) (fun hHeld2 => ?_)
          clear hK K hHeld
          have hHeld := hHeld2
          clear hHeld2
          try simp only [Act.put, List.getElem_toArray, List.getElem_cons_zero, List.getElem_cons_succ, List.setIfInBounds_toArray, List.set_cons_zero, List.set_cons_succ]
          refine wpAnyH_take (i := 9) (v := ?_) rfl (by kernel_rfl) (by kernel_rfl) (by kernel_rfl) (fun _ _ _ h => h) (Or.inl ⟨by rfl, ?e109⟩) hHeld ?_
          case e109 =>
            intro wS hSw
            obtain ⟨z0, z1⟩ := hSw
            go_simp
            try with_reducible rfl
          try simp only [Act.put, List.getElem_toArray, List.getElem_cons_zero, List.getElem_cons_succ, List.setIfInBounds_toArray, List.set_cons_zero, List.set_cons_succ]
          refine wpAnyH_done (by kernel_rfl) ?_ _
          clear hHeld
          try simp only [Act.put, List.getElem_toArray, List.getElem_cons_zero, List.getElem_cons_succ, List.setIfInBounds_toArray, List.set_cons_zero, List.set_cons_succ]
          go_wp2
          go_roundw
          case rel =>
            refine ⟨j + 1, Q ++ e.c ++ sh tn, by omega, by go_num, by simp, Lib.hid (HBQ.out.trans ((HB6.out.trans (HB7.out.mono HB6.out.size)).mono HBQ.out.size)), Lib.hid ?_⟩
            rw [encL_take hjl, ← HE.out, encE, HTN.out, HQ.out]
            simp
          case measure => simp [RowKit.intOf]; omega
        · obtain rfl : j = m := by omega
          have HQE : Hid (Q = s0 ++ (Z.take (i + 1)).flatMap encP) := Lib.hid (by rw [HTK.out, HEP.out, HQ.out, HM.out, List.take_length]; simp)
          go_wp2
          go_roundw
          case rel => exact ⟨i + 1, by omega, by go_num, by rw [HQE.out], HBW⟩
          case measure => simp [RowKit.intOf]; omega
    · obtain rfl : i = Z.length := by omega
      rw [List.take_length] at hsl ⊢
      have LA := Lib.hid (rlaid_any wo (s0 ++ Z.flatMap encP) (by omega))
      go_wp2_with fail
      refine LA.out.mono ?_
      rintro ex w9 ⟨rfl, hb9⟩
      have HB9 := Lib.hid hb9
      clear hb9 LA
      go_wp2
      go_ret
      rw [HPL.out]
      exact ⟨rfl, HB.out.trans (HB9.out.mono HB.out.size)⟩
end Go.Proofs.YtkeegnhjemhblaaGreatDoor.Rb
