import Derived.Test.YtpbhkaokgpacoaaGreatDoorZStRDecPlain
import Derived.Test.YtpbhkaokgpacoaaGreatDoorZStRefAt
set_option linter.unusedSimpArgs false
set_option linter.unusedVariables false
/-
  Bytes that were read are the bytes of what was read: a number stands in no longer form.
-/
namespace Go.Proofs.YtpbhkaokgpacoaaGreatDoor.Rf
theorem rd_back : ∀ (s : List UInt8) (f i n m k : Nat), f + i = 9 → rd i n s = some (m, k) → ∃ d, m = n + d * 128 ^ i ∧ (0 < i → 0 < d) ∧ i < k ∧ s = shF f d ++ s.drop (k - i)
  | [], _, _, _, _, _, _, h => by simp [rd] at h
  | b :: r, f, i, n, m, k, hi, h => by
    have hb := UInt8.toNat_lt b
    have eb : UInt8.ofNat b.toNat = b := by simp
    simp only [rd] at h
    split at h
    · cases h
    split at h
    · cases h
    next hno =>
    split at h
    · next hs =>
      obtain ⟨rfl, rfl⟩ := Prod.mk.inj (Option.some.inj h)
      refine ⟨b.toNat, rfl, fun _ => by omega, by omega, ?_⟩
      rw [shF_small hs, eb, Nat.add_sub_cancel_left]
      rfl
    · next hs =>
      obtain ⟨f', rfl⟩ : ∃ f', f = f' + 1 := ⟨f - 1, by omega⟩
      obtain ⟨d, h1, h2, h3, h4⟩ := rd_back r f' (i + 1) _ m k (by omega) h
      have hd := h2 (by omega)
      refine ⟨(b.toNat - 128) + 128 * d, ?_, fun _ => by omega, by omega, ?_⟩
      · rw [h1, Nat.pow_succ, Nat.add_mul, Nat.add_assoc]
        congr 2
        rw [Nat.mul_comm 128 d, Nat.mul_assoc, Nat.mul_comm 128 (128 ^ i)]
      · rw [shF_step (by omega), show ((b.toNat - 128) + 128 * d) % 128 + 128 = b.toNat by omega, eb, show ((b.toNat - 128) + 128 * d) / 128 = d by omega,
          show k - i = (k - (i + 1)) + 1 by omega, List.drop_succ_cons, List.cons_append, ← h4]
theorem rd0_back {s : List UInt8} {n k : Nat} (h : rd0 s = some (n, k)) : s = sh n ++ s.drop k := by
  obtain ⟨d, h1, _, _, h4⟩ := rd_back s 9 0 0 n k (by omega) h
  rw [Nat.pow_zero, Nat.mul_one, Nat.zero_add] at h1
  subst h1
  exact h4
end Go.Proofs.YtpbhkaokgpacoaaGreatDoor.Rf
namespace Go.Proofs.YtpbhkaokgpacoaaGreatDoor.St
open Go.RowKit Go.Proofs.YtpbhkaokgpacoaaGreatDoor.Rf Go.Proofs.YtpbhkaokgpacoaaGreatDoor.Rd Go.Proofs.YtpbhkaokgpacoaaGreatDoor.Nm
theorem num_back {most : Nat} {R : List UInt8} (h : numB most R = true) : R = sh (shN R) ++ shR R ∧ shN R ≤ most := by
  rw [numB, Bool.and_eq_true, decide_eq_true_iff] at h
  refine ⟨?_, h.2⟩
  obtain ⟨p, hp⟩ := Option.isSome_iff_exists.1 h.1
  rw [shN, shR, hp]
  exact rd0_back hp
theorem tk_back {n : Nat} {R : List UInt8} (h : tkB n R = true) : R = tkF n R ++ tkR n R ∧ (tkF n R).length = n := by
  refine ⟨?_, tkF_len _ _⟩
  rw [tkB, decide_eq_true_iff] at h
  rw [tkF, tkT, if_pos h, tkR, if_pos h, List.length_take, Nat.min_eq_left h, Nat.sub_self]
  simp
theorem tx_back {most : Nat} {R : List UInt8} (h : txB most R = true) : R = putText (txT most R) ++ txR most R := by
  rw [txB] at h
  obtain ⟨p, hp⟩ := Option.isSome_iff_exists.1 h
  rw [txT, txR, hp]
  rw [txt] at hp
  split at hp
  · cases hp
  · next q hq =>
    split at hp
    · next hc =>
      obtain rfl := Option.some.inj hp
      have := rd0_back (n := q.1) (k := q.2) hq
      dsimp only
      rw [putText, List.length_take, List.length_drop, Nat.min_eq_left hc.2, List.append_assoc, List.take_append_drop]
      exact this
    · cases hp
theorem one_back {l : List UInt8} (h : l.length = 1) : [UInt8.ofNat (l.headD 0).toNat] = l := by
  match l, h with
  | [b], _ => simp
theorem wrap_back {n : Nat} (h : n ≤ 1099511627776) : (IntKind.i64.wrap (n : Int)).toNat = n := by
  rw [IntKind.wrap_i64]; omega
theorem ent_back {R : List UInt8} (h : entB R = true) : R = encS (entE R) ++ r7 R := by
  simp only [entB, Bool.and_eq_true] at h
  obtain ⟨h1, h2, h3, h4, h5, h6, h7⟩ := h
  have e1 := tx_back h1
  obtain ⟨e2, l2⟩ := tk_back h2
  obtain ⟨e3, b3⟩ := num_back h3
  obtain ⟨e4, _⟩ := num_back h4
  obtain ⟨e5, b5⟩ := num_back h5
  obtain ⟨e6, l6⟩ := tk_back h6
  obtain ⟨e7, _⟩ := tk_back h7
  have w3 := wrap_back (n := shN (r2 R)) (by omega)
  have w5 := wrap_back (n := shN (r4 R)) (by omega)
  have o2 := one_back l2
  have o6 := one_back l6
  rw [encS, entE]
  dsimp only
  rw [w3, w5, o2, o6]
  simp only [List.append_assoc]
  change R = putText (txT 65536 R) ++ (tkF 1 (r1 R) ++ (sh (shN (r2 R)) ++ (sh (shN (r3 R)) ++ (sh (shN (r4 R)) ++ (tkF 1 (r5 R) ++ (tkF 32 (r6 R) ++ tkR 32 (r6 R)))))))
  rw [← e7]
  change R = putText (txT 65536 R) ++ (tkF 1 (r1 R) ++ (sh (shN (r2 R)) ++ (sh (shN (r3 R)) ++ (sh (shN (r4 R)) ++ (tkF 1 (r5 R) ++ tkR 1 (r5 R))))))
  rw [← e6]
  change R = putText (txT 65536 R) ++ (tkF 1 (r1 R) ++ (sh (shN (r2 R)) ++ (sh (shN (r3 R)) ++ (sh (shN (r4 R)) ++ shR (r4 R)))))
  rw [← e5]
  change R = putText (txT 65536 R) ++ (tkF 1 (r1 R) ++ (sh (shN (r2 R)) ++ (sh (shN (r3 R)) ++ shR (r3 R))))
  rw [← e4]
  change R = putText (txT 65536 R) ++ (tkF 1 (r1 R) ++ (sh (shN (r2 R)) ++ shR (r2 R)))
  rw [← e3]
  change R = putText (txT 65536 R) ++ (tkF 1 (r1 R) ++ tkR 1 (r1 R))
  rw [← e2]
  exact e1
theorem refGo_back : ∀ (n : Nat) (L : List SE) (R : List UInt8) (L' : List SE) (R' : List UInt8), R.length ≤ 140737488355328 → Srt L → refGo n L R = some (L', R') →
    ∃ M, L' = L ++ M ∧ M.length = n ∧ R = M.flatMap encS ++ R' ∧ Srt L' ∧ (∀ e ∈ M, e.Fits) ∧ (∀ e ∈ M, mayN e = 0)
  | 0, L, R, L', R', hl, hs, h => by
    rw [refGo] at h
    obtain ⟨rfl, rfl⟩ := Prod.mk.inj (Option.some.inj h)
    exact ⟨[], by simp, rfl, rfl, hs, (fun _ hx => by cases hx), (fun _ hx => by cases hx)⟩
  | n + 1, L, R, L', R', hl, hs, h => by
    rw [refGo] at h
    split at h
    · next hn =>
      obtain ⟨h1, h2, h3⟩ := nextB_lt hn
      have hb := ent_back h1
      have hl7 : (r7 R).length ≤ 140737488355328 := by
        have := congrArg List.length hb
        rw [List.length_append] at this
        omega
      obtain ⟨M, rfl, g2, g3, g4, g5, g6⟩ := refGo_back n _ _ _ _ hl7 (srt_next hs h3) h
      refine ⟨entE R :: M, by simp, by simp [g2], ?_, by simpa using g4, fun e he => ?_, fun e he => ?_⟩
      · rw [List.flatMap_cons, List.append_assoc, ← g3]; exact hb
      · rcases List.mem_cons.1 he with rfl | he
        · exact ent_fits hl
        · exact g5 e he
      · rcases List.mem_cons.1 he with rfl | he
        · exact h2
        · exact g6 e he
    · cases h
/-- What is read as an index is that index's own bytes, and the index is a good one. -/
theorem decX_back {s : List UInt8} {L : List SE} (hl : s.length ≤ 140737488355328) (h : decX s = some L) :
    encX L = s ∧ Srt L ∧ (∀ e ∈ L, e.Fits) ∧ (∀ e ∈ L, mayN e = 0) ∧ L.length ≤ 65536 := by
  rw [decX_ref] at h
  split at h
  · next hc =>
    obtain ⟨hm, hn⟩ := hc
    obtain ⟨e1, b1⟩ := num_back hn
    cases hg : refGo (shN (s.drop 4)) [] (shR (s.drop 4)) with
    | none => rw [hg] at h; cases h
    | some p =>
      obtain ⟨L', R'⟩ := p
      rw [hg] at h
      cases R' with
      | cons a r => cases h
      | nil =>
        obtain rfl := Option.some.inj h
        have hr := shR_le (s.drop 4)
        rw [List.length_drop] at hr
        obtain ⟨M, eM, g2, g3, g4, g5, g6⟩ := refGo_back _ _ _ _ _ (by omega) List.Pairwise.nil hg
        rw [List.nil_append] at eM
        subst eM
        rw [List.append_nil] at g3
        refine ⟨?_, g4, g5, g6, by omega⟩
        rw [encX, g2, ← g3, List.append_assoc, ← e1, ← hm, List.take_append_drop]
  · cases h
end Go.Proofs.YtpbhkaokgpacoaaGreatDoor.St
/-
  The contract of the reference's Drop.
-/
namespace Go.Proofs.YtpbhkaokgpacoaaGreatDoor.St
open Go.RowKit Go.Maps Go.WideMaps Go.Proofs.YtpbhkaokgpacoaaGreatDoor.Rf Go.Proofs.YtpbhkaokgpacoaaGreatDoor.Rd

/-- What a call that turns the reference's index leaves. -/
def RxPost (B : Nat) (w : World) (r : Nat) (v : Value) (c : Int) (L' : List SE) (e : Ending) (w' : World) : Prop :=
  ∃ v', e = .returned (.int .i64 c) ∧ RefAt B w' r v' L' ∧ Turn (r :: ob v) w w' ∧ ∀ x ∈ ob v', x ∈ ob v ∨ w.heap.size ≤ x
theorem rxPost_same {B : Nat} {w w' : World} {r : Nat} {v : Value} {c : Int} {L : List SE} {e : Ending} (h : RefAt B w r v L) (he : e = .returned (.int .i64 c)) (hb : Below w.heap.size w w') : RxPost B w r v c L e w' :=
  ⟨v, he, h.below hb, Turn.of_below hb, fun _ hx => .inl hx⟩
/-- A new list was put together behind, and laid into the index. -/
theorem rxPost_new {B : Nat} {w wc : World} {r n : Nat} {v v' : Value} {c : Int} {L L' : List SE} {e : Ending} (h : RefAt B w r v L) (hb : Below w.heap.size w wc) (he : e = .returned (.int .i64 c))
    (hn : w.heap.size ≤ n) (ho : wc.ownsRow n 49 38 v' L'.length (cellsS L')) (hs : Srt L') (hf : ∀ e ∈ L', e.Fits) (hl : L'.length ≤ 65536) : RxPost B w r v c L' e (wc.setCell ⟨r, 0, none⟩ v') := by
  have h1 := h.below hb
  have hge := rowS_ge ho
  have hrl := h.lt
  refine ⟨v', he, ⟨?_, ?_, fun x hx => ?_, h.base, hs, hf, hl⟩, ?_, fun x hx => .inr (Nat.le_trans hn (hge x hx))⟩
  · rw [setCell_heap _ _ _ _ _ _ h1.book]; rfl
  · refine rowS_kept (row_mono ho (Nat.le_trans h.base (Nat.le_trans (Nat.le_of_lt hrl) hn))) (fun x hx _ => Below.heap_setCell _ _ _ _ ?_)
    have := hge x hx
    show x ≠ r
    omega
  · have := hge x hx
    omega
  · exact ((Turn.of_below hb : Turn (r :: ob v) w wc)).setCell (.inl (by simp)) _

set_option linter.unusedSimpArgs false in
set_option maxHeartbeats 8000000 in
set_option maxRecDepth 100000 in
theorem ref_drop (B : Nat) (w : World) (r : Nat) (v : Value) (L : List SE) (S : ByteArray) (hS : S.size ≤ maxLen) (h : RefAt B w r v L) :
    Calls Tryz.prog 15 #[ptr r, .string S] w (RxPost B w r v (getE S.data.toList L) (remL S.data.toList L)) := by
  have AT := Lib.hid (at_any B w r v L S.data.toList (by rw [← Lib.size_eq]; exact hS) h)
  rw [ba_mk] at AT
  have H := Lib.hid h
  have hll : L.length ≤ 65536 := h.len
  unfold ptr getE at *
  unfold thereL at AT
  cases hg : getL S.data.toList L with
  | none =>
    rw [hg] at AT
    have HRN := Lib.hid (remL_none hg)
    clear hg h
    go_enter Tryz.func15, Tryz.ntmps15
    go_wp2_with fail
    refine AT.out.mono ?_
    rintro e w1 ⟨rfl, hb1⟩
    have HB1 := Lib.hid hb1
    clear hb1 AT
    go_wp2
    go_ret
    rw [HRN.out]
    exact rxPost_same H.out rfl HB1.out
  | some en =>
    rw [hg] at AT
    have hat := getL_at S.data.toList L
    rw [hg] at hat
    obtain ⟨x, hx, _⟩ := Option.bind_eq_some_iff.1 hat.symm
    have hil : atL S.data.toList L < L.length := (List.getElem?_eq_some_iff.1 hx).1
    have HRM := Lib.hid (remL_there hg)
    have HS := Lib.hid (remL_srt (p := S.data.toList) h.srt)
    have HSUB := Lib.hid (remL_sub S.data.toList L)
    generalize remL S.data.toList L = L' at *
    generalize atL S.data.toList L = ia at *
    clear hg hat hx h
    go_enter Tryz.func15, Tryz.ntmps15
    go_wp2_with fail
    refine AT.out.mono ?_
    rintro e w1 ⟨rfl, hb1⟩
    have HB1 := Lib.hid hb1
    have h1 := H.out.below hb1
    have KR : Hid (∀ w' : World, Below w1.heap.size w1 w' → w'.cell? ⟨r, 0, none⟩ = some v) := Lib.hid (fun w' hb => by rw [cell_of_heap (h1.below hb).book]; rfl)
    have KF : Hid (∀ w' : World, Below w1.heap.size w1 w' → w'.frozen? ⟨r, 0, none⟩ = false) := Lib.hid (fun w' hb => frozen_of_heap (h1.below hb).book)
    obtain ⟨x7, hx7, hh7, hxb7⟩ := slice_front h1 (Nat.le_of_lt hil)
    obtain ⟨x15, hx15, hh15, hxb15⟩ := slice_back h1 (i := ia + 1) hil
    have e1 : ((ia + 1 : Nat) : Int) = IntKind.i64.wrap ((ia : Int) + 1) := by rw [IntKind.wrap_i64]; omega
    simp only [e1] at hx15
    clear e1
    have HX7 := Lib.hid hx7; have H7 := Lib.hid hh7; have HX15 := Lib.hid hx15; have H15 := Lib.hid hh15
    have HX7B := Lib.hid (fun a c e => rowS_lt h1.row _ (hxb7 a c e))
    have HX15B := Lib.hid (fun a c e => rowS_lt h1.row _ (hxb15 a c e))
    have HL1 := Lib.hid (show (cellsS (L.take ia)).length = ia * 38 by rw [cellsS_length (fun e he => (h1.fits e (List.mem_of_mem_take he)).id), List.length_take, Nat.min_eq_left (Nat.le_of_lt hil), Nat.mul_comm])
    have HL2 := Lib.hid (show (cellsS (L.drop (ia + 1))).length = (L.length - (ia + 1)) * 38 by rw [cellsS_length (fun e he => (h1.fits e (List.mem_of_mem_drop he)).id), List.length_drop, Nat.mul_comm])
    obtain ⟨i0, hi0, hz0, hz1, hz2⟩ := info_parts infoZR
    have hz3 : (enV zeroS).cells.size = 38 := by kernel_rfl
    clear hx7 hh7 hxb7 hx15 hh15 hxb15 hb1 AT h1
    go_wp2
    refine region_held (S := (fun w' : World => w'.cell? ⟨r, 0, none⟩ = some v)) (k := 19) (by kernel_rfl) (KR.out _ (Below.refl _ _).drew) (fun hHeld => ?_)
    refine held_take (i := 0) (v := ?_) rfl (by kernel_rfl) (by kernel_rfl) (by kernel_rfl) (by kernel_rfl) (fun _ _ _ h => h) (Or.inl ⟨by rfl, ?d0⟩) hHeld ?_
    case d0 =>
      intro wS hSw
      have k0 := hSw
      go_simp
      try with_reducible rfl
    try simp only [Act.put, List.getElem_toArray, List.getElem_cons_zero, List.getElem_cons_succ, List.setIfInBounds_toArray, List.set_cons_zero, List.set_cons_succ]
    refine held_take (i := 2) (v := ?_) rfl (by kernel_rfl) (by kernel_rfl) (by kernel_rfl) (by kernel_rfl) (fun _ _ _ h => h) (Or.inl ⟨by rfl, ?d1⟩) hHeld ?_
    case d1 =>
      intro wS hSw
      have k0 := hSw
      go_simp
      try with_reducible rfl
    try simp only [Act.put, List.getElem_toArray, List.getElem_cons_zero, List.getElem_cons_succ, List.setIfInBounds_toArray, List.set_cons_zero, List.set_cons_succ]
    refine held_take (i := 3) (v := ?_) rfl (by kernel_rfl) (by kernel_rfl) (by kernel_rfl) (by kernel_rfl) (fun _ _ _ h => h) (Or.inl ⟨by rfl, ?d2⟩) hHeld ?_
    case d2 =>
      intro wS hSw
      have k0 := hSw
      go_simp
      try with_reducible rfl
    try simp only [Act.put, List.getElem_toArray, List.getElem_cons_zero, List.getElem_cons_succ, List.setIfInBounds_toArray, List.set_cons_zero, List.set_cons_succ]
    refine held_take (i := 4) (v := ?_) rfl (by kernel_rfl) (by kernel_rfl) (by kernel_rfl) (by kernel_rfl) (fun _ _ _ h => h) (Or.inl ⟨by rfl, ?d3⟩) hHeld ?_
    case d3 =>
      intro wS hSw
      have k0 := hSw
      go_simp
      try with_reducible rfl
    try simp only [Act.put, List.getElem_toArray, List.getElem_cons_zero, List.getElem_cons_succ, List.setIfInBounds_toArray, List.set_cons_zero, List.set_cons_succ]
    refine held_take (i := 5) (v := ?_) rfl (by kernel_rfl) (by kernel_rfl) (by kernel_rfl) (by kernel_rfl) (fun _ _ _ h => h) (Or.inl ⟨by rfl, ?d4⟩) hHeld ?_
    case d4 =>
      intro wS hSw
      have k0 := hSw
      go_simp
      try with_reducible rfl
    try simp only [Act.put, List.getElem_toArray, List.getElem_cons_zero, List.getElem_cons_succ, List.setIfInBounds_toArray, List.set_cons_zero, List.set_cons_succ]
    refine held_take (i := 6) (v := ?_) rfl (by kernel_rfl) (by kernel_rfl) (by kernel_rfl) (by kernel_rfl) (fun _ _ _ h => h) (Or.inl ⟨by rfl, ?d5⟩) hHeld ?_
    case d5 =>
      intro wS hSw
      have k0 := hSw
      go_simp
      try with_reducible rfl
    try simp only [Act.put, List.getElem_toArray, List.getElem_cons_zero, List.getElem_cons_succ, List.setIfInBounds_toArray, List.set_cons_zero, List.set_cons_succ]
    refine held_take (i := 7) (v := x7) rfl (by kernel_rfl) (by kernel_rfl) (by kernel_rfl) (by kernel_rfl) (fun _ _ _ h => h) (Or.inl ⟨by rfl, ?d6⟩) hHeld ?_
    case d6 =>
      intro wS hSw
      refine exec_slice (.tmp 20) none (some (.tmp 21)) v x7 none (some (.int .i64 (ia : Int))) ?_ ?_ ?_ ?_ (HX7.out wS)
      all_goals first | rfl | kernel_rfl
    try simp only [Act.put, List.getElem_toArray, List.getElem_cons_zero, List.getElem_cons_succ, List.setIfInBounds_toArray, List.set_cons_zero, List.set_cons_succ]
    refine held_take (i := 9) (v := ?_) rfl (by kernel_rfl) (by kernel_rfl) (by kernel_rfl) (by kernel_rfl) (fun _ _ _ h => h) (Or.inl ⟨by rfl, ?d7⟩) hHeld ?_
    case d7 =>
      intro wS hSw
      have k0 := hSw
      go_simp
      try with_reducible rfl
    try simp only [Act.put, List.getElem_toArray, List.getElem_cons_zero, List.getElem_cons_succ, List.setIfInBounds_toArray, List.set_cons_zero, List.set_cons_succ]
    refine held_take (i := 10) (v := ?_) rfl (by kernel_rfl) (by kernel_rfl) (by kernel_rfl) (by kernel_rfl) (fun _ _ _ h => h) (Or.inl ⟨by rfl, ?d8⟩) hHeld ?_
    case d8 =>
      intro wS hSw
      have k0 := hSw
      go_simp
      try with_reducible rfl
    try simp only [Act.put, List.getElem_toArray, List.getElem_cons_zero, List.getElem_cons_succ, List.setIfInBounds_toArray, List.set_cons_zero, List.set_cons_succ]
    refine held_take (i := 11) (v := ?_) rfl (by kernel_rfl) (by kernel_rfl) (by kernel_rfl) (by kernel_rfl) (fun _ _ _ h => h) (Or.inl ⟨by rfl, ?d9⟩) hHeld ?_
    case d9 =>
      intro wS hSw
      have k0 := hSw
      go_simp
      try with_reducible rfl
    try simp only [Act.put, List.getElem_toArray, List.getElem_cons_zero, List.getElem_cons_succ, List.setIfInBounds_toArray, List.set_cons_zero, List.set_cons_succ]
    refine held_take (i := 12) (v := ?_) rfl (by kernel_rfl) (by kernel_rfl) (by kernel_rfl) (by kernel_rfl) (fun _ _ _ h => h) (Or.inl ⟨by rfl, ?d10⟩) hHeld ?_
    case d10 =>
      intro wS hSw
      have k0 := hSw
      go_simp
      try with_reducible rfl
    try simp only [Act.put, List.getElem_toArray, List.getElem_cons_zero, List.getElem_cons_succ, List.setIfInBounds_toArray, List.set_cons_zero, List.set_cons_succ]
    refine held_take (i := 13) (v := ?_) rfl (by kernel_rfl) (by kernel_rfl) (by kernel_rfl) (by kernel_rfl) (fun _ _ _ h => h) (Or.inl ⟨by rfl, ?d11⟩) hHeld ?_
    case d11 =>
      intro wS hSw
      have k0 := hSw
      go_simp
      try with_reducible rfl
    try simp only [Act.put, List.getElem_toArray, List.getElem_cons_zero, List.getElem_cons_succ, List.setIfInBounds_toArray, List.set_cons_zero, List.set_cons_succ]
    refine held_take (i := 14) (v := ?_) rfl (by kernel_rfl) (by kernel_rfl) (by kernel_rfl) (by kernel_rfl) (fun _ _ _ h => h) (Or.inl ⟨by rfl, ?d12⟩) hHeld ?_
    case d12 =>
      intro wS hSw
      have k0 := hSw
      go_simp
      try with_reducible rfl
    try simp only [Act.put, List.getElem_toArray, List.getElem_cons_zero, List.getElem_cons_succ, List.setIfInBounds_toArray, List.set_cons_zero, List.set_cons_succ]
    refine held_take (i := 15) (v := x15) rfl (by kernel_rfl) (by kernel_rfl) (by kernel_rfl) (by kernel_rfl) (fun _ _ _ h => h) (Or.inl ⟨by rfl, ?d13⟩) hHeld ?_
    case d13 =>
      intro wS hSw
      refine exec_slice (.tmp 27) (some (.tmp 29)) none v x15 (some (.int .i64 (IntKind.i64.wrap ((ia : Int) + 1)))) none ?_ ?_ ?_ ?_ (HX15.out wS)
      all_goals first | rfl | kernel_rfl
    try simp only [Act.put, List.getElem_toArray, List.getElem_cons_zero, List.getElem_cons_succ, List.setIfInBounds_toArray, List.set_cons_zero, List.set_cons_succ]
    refine held_ready (rs := [1]) (by kernel_rfl) (by simp) ?_
    refine AllHeld.cons rfl (fun K hK => ?_) AllHeld.nil
    refine step_wp rfl ?_
    refine wp_none 27 49 i0 _ rfl Tryz.underlying27 hi0 hz0 hz1 ?_
    intro x1 wa ho1 hg1 hx1
    have hx1 : ∀ b, x1.ownBlock = some b → b = w1.heap.size := hx1
    have HBA : Hid (Below w1.heap.size w1 wa) := Lib.hid ((Below.refl _ _).drew.grown hg1 (Nat.le_refl _) (fun k hk => nomatch hk))
    have ka := KR.out wa HBA.out
    refine hK.out _ _ (fun _ => ka) (fun hHeld => ?_)
    clear hK K
    have hHeld := hHeld (by decide)
    try simp only [Act.put, List.getElem_toArray, List.getElem_cons_zero, List.getElem_cons_succ, List.setIfInBounds_toArray, List.set_cons_zero, List.set_cons_succ]
    refine held_ready (rs := [8]) (by kernel_rfl) (by simp) ?_
    refine AllHeld.cons rfl (fun K hK => ?_) AllHeld.nil
    refine step_wp rfl ?_
    refine wp_append_holds (.tmp 16) (.tmp 22) 27 rfl w1.heap.size 49 i0 _ 88 Tryz.underlying27 hi0 hz0 hz1 hz2 hz3 x1 0 [] ?ap ho1 x7 ia (cellsS (L.take ia)) ?bp (H7.out.below HBA.out HX7B.out) ?cp ?dp ?ep ?fp ?gp ?hp
    case ap => rfl
    case bp => rfl
    case cp => exact HL1.out
    case dp => exact cellsS_one
    case ep => unfold maxLen; omega
    case fp => omega
    case gp => exact HBA.out.size
    intro x8 wb ho8 hg8 hx8
    have HBB : Hid (Below w1.heap.size w1 wb) := Lib.hid (HBA.out.grown hg8 HBA.out.size (fun k hk => by have := hx1 k hk; omega))
    have hge8 : ∀ b, x8.ownBlock = some b → w1.heap.size ≤ b := fun b hb => by rcases hx8 with e | e; (rw [e] at hb; have := hx1 b hb; omega); (rw [e] at hb; injection hb with hb; have := HBA.out.size; omega)
    have ka := KR.out wb HBB.out
    refine hK.out _ _ (fun _ => ka) (fun hHeld => ?_)
    clear hK K
    have hHeld := hHeld (by decide)
    try simp only [Act.put, List.getElem_toArray, List.getElem_cons_zero, List.getElem_cons_succ, List.setIfInBounds_toArray, List.set_cons_zero, List.set_cons_succ]
    refine held_ready (rs := [16]) (by kernel_rfl) (by simp) ?_
    refine AllHeld.cons rfl (fun K hK => ?_) AllHeld.nil
    refine step_wp rfl ?_
    refine wp_append_holds (.tmp 23) (.tmp 30) 27 rfl w1.heap.size 49 i0 _ 88 Tryz.underlying27 hi0 hz0 hz1 hz2 hz3 x8 (0 + ia) ([] ++ cellsS (L.take ia)) ?aq ho8 x15 (L.length - (ia + 1)) (cellsS (L.drop (ia + 1))) ?bq (H15.out.below HBB.out HX15B.out) ?cq ?dq ?eq ?fq ?gq ?hq
    case aq => rfl
    case bq => rfl
    case cq => exact HL2.out
    case dq => exact cellsS_one
    case eq => unfold maxLen; omega
    case fq => omega
    case gq => exact HBB.out.size
    intro x16 wc ho16 hg16 hx16
    have HBC : Hid (Below w1.heap.size w1 wc) := Lib.hid (HBB.out.grown hg16 HBB.out.size (fun k hk => hge8 k hk))
    obtain ⟨a16, c16, rfl⟩ := rowS_slice ho16
    have ka := KR.out wc HBC.out
    have kf : wc.frozen? ⟨r, 0, none⟩ = false := KF.out wc HBC.out
    refine hK.out _ _ (fun _ => ka) (fun hHeld => ?_)
    clear hK K
    have hHeld := hHeld (by decide)
    try simp only [Act.put, List.getElem_toArray, List.getElem_cons_zero, List.getElem_cons_succ, List.setIfInBounds_toArray, List.set_cons_zero, List.set_cons_succ]
    refine held_ready (rs := [17]) (by kernel_rfl) (by simp) ?_
    refine AllHeld.cons rfl (fun K hK => ?_) AllHeld.nil
    go_simp
    refine hK.out _ _ (fun _ => ka) (fun hHeld => ?_)
    clear hK K
    have hHeld := hHeld (by decide)
    try simp only [Act.put, List.getElem_toArray, List.getElem_cons_zero, List.getElem_cons_succ, List.setIfInBounds_toArray, List.set_cons_zero, List.set_cons_succ]
    refine held_ready (rs := [18]) (by kernel_rfl) (by simp) ?_
    refine AllHeld.cons rfl (fun K hK => ?_) AllHeld.nil
    go_simp
    refine hK.out _ _ (fun _ => ka) (fun hHeld => ?_)
    clear hK K
    have hHeld := hHeld (by decide)
    try simp only [Act.put, List.getElem_toArray, List.getElem_cons_zero, List.getElem_cons_succ, List.setIfInBounds_toArray, List.set_cons_zero, List.set_cons_succ]
    refine held_ready (rs := [19]) (by kernel_rfl) (by simp) ?_
    refine AllHeld.cons rfl (fun K hK => ?_) AllHeld.nil
    go_simp
    refine hK.out _ _ (fun h => absurd rfl h) (fun _ => ?_)
    clear hK K
    try simp only [Act.put, List.getElem_toArray, List.getElem_cons_zero, List.getElem_cons_succ, List.setIfInBounds_toArray, List.set_cons_zero, List.set_cons_succ]
    refine held_done (by kernel_rfl) ?_ _
    clear hHeld
    try simp only [Act.put, List.getElem_toArray, List.getElem_cons_zero, List.getElem_cons_succ, List.setIfInBounds_toArray, List.set_cons_zero, List.set_cons_succ]
    go_wp2
    go_ret
    rw [Nat.zero_add] at ho16
    have hlen : L'.length = ia + (L.length - (ia + 1)) := by rw [HRM.out, List.length_append, List.length_take, List.length_drop]; omega
    have hcs : cellsS L' = [] ++ cellsS (L.take ia) ++ cellsS (L.drop (ia + 1)) := by rw [HRM.out, cellsS_append, List.nil_append]
    refine rxPost_new H.out (HB1.out.trans (HBC.out.mono HB1.out.size)) rfl HB1.out.size ?_ HS.out (fun e he => H.out.fits e (HSUB.out.mem he)) (Nat.le_trans HSUB.out.length_le hll)
    rw [hlen, hcs]
    exact ho16
end Go.Proofs.YtpbhkaokgpacoaaGreatDoor.St
