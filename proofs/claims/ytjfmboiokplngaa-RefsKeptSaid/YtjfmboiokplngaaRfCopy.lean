/-
  The contract of a book's Copy.
-/
import Derived.Test.YtjfmboiokplngaaRfBack
namespace Go.Proofs.Ytjfmboiokplngaa.Rf
open Go.RowKit Go.Maps Go.WideMaps
variable {X : Spect}

/-- A branch that has another one's snapshots. -/
def copyB (K : BK) (k j : List UInt8) : Int × BK :=
  match getM K k with
  | none => (6, K)
  | some l => if Nm.chk j = false then (10, K) else if (getM K j).isSome then (7, K) else if 64 ≤ K.length then (3, K) else (0, putM K j l)

/-- A clone stands in the map. -/
theorem clone_end {B : Nat} {w2 w3 w4 : World} {g b : Nat} {Z : BM} {k : List UInt8} {v' : Value} {l : List En} (h : BookAt X B w2 g b Z) (hb : Below w2.heap.size w2 w3)
    (hown : w3.ownsRow w2.heap.size 34 33 v' l.length (cellsL l)) (hm : w4.ownsMap Try.prog 9 Rv b 1000001 ((toD Prod.fst Z).put (.string k) (.held v'))) (hz : Z.length ≤ 64) (ht : w3.mapTurned w4 b) :
    BookAt X B w4 g b (putM Z k (v', l)) ∧ Below B w2 w4 := by
  have hlb := h.lt_b; have hlg := h.lt_g; have hs := hb.size
  have t4 := ht.grown
  have hBw : B ≤ w2.heap.size := Nat.le_trans h.baseg (Nat.le_of_lt hlg)
  refine ⟨h.put k v' l ?_ ?_ ?_ ?_, ?_⟩
  · intro y hy hyb _
    rw [t4.block y (by omega) (by simpa using hyb), hb.block y hy]
  · rw [toD_put Prod.fst Z k (v', l)] at hm
    exact map_tight hm (by have := putM_length Z k (v', l); omega)
  · refine rowS_kept (row_mono hown hBw) (fun y hy hl => t4.block y hl ?_)
    have := rowS_ge hown y hy
    have hyb : y ≠ b := by omega
    simpa using hyb
  · intro y hy
    exact .inl (rowS_ge hown y hy)
  · exact (hb.mono hBw).grown t4 (Nat.le_trans hBw hs) (fun y hy => by obtain rfl := Option.some.inj hy; exact h.baseb)

set_option maxHeartbeats 4000000 in
set_option maxRecDepth 100000 in
theorem copy_any (B : Nat) (w : World) (g b : Nat) (Z : BM) (S T : ByteArray) (hS : S.size ≤ maxLen) (hT : T.size ≤ maxLen) (h : BookAt X B w g b Z) (ok : OkB (plainB Z)) :
    Calls Try.prog 8 #[ptr g, .string S, .string T] w (BkPost X B w g b (.int .i64 (copyB (plainB Z) S.data.toList T.data.toList).1) (copyB (plainB Z) S.data.toList T.data.toList).2) := by
  have K := Lib.hid (log_any B w g b Z S hS h)
  have H := Lib.hid h
  have C := Lib.hid (fun w => Nm.check_any T w hT)
  have c0 : w.cell? ⟨g, 0, none⟩ = some (.map (some b)) := cell_of_heap h.book
  have HN : Hid (Z.length ≤ 64) := Lib.hid (by rw [← plain_length]; exact ok.size)
  have HOK := Lib.hid ok
  have HBw : Hid (B ≤ w.heap.size) := Lib.hid (Nat.le_trans h.baseg (Nat.le_of_lt h.lt_g))
  obtain ⟨R, hR⟩ : ∃ R, R = copyB (plainB Z) S.data.toList T.data.toList := ⟨_, rfl⟩
  have ER := Lib.hid hR
  rw [← hR]
  have hlk := h.look T hT
  clear hR h ok
  unfold ptr at *
  unfold Nm.chkN at C
  go_enter Try.func8, Try.ntmps8
  go_wp2_with fail
  refine K.out.mono ?_
  rintro e w1 ⟨rfl, rfl⟩
  unfold logV
  cases hg : getM Z S.data.toList with
  | none =>
    have ER2 : Hid (R = (6, plainB Z)) := Lib.hid (by rw [ER.out, copyB, plain_get, hg]; rfl)
    clear hg K C hlk
    go_wp2
    go_ret
    rw [ER2.out]
    exact ⟨Z, rfl, H.out, rfl, Below.refl _ _⟩
  | some p =>
    obtain ⟨pv, pl⟩ := p
    obtain ⟨_, ok1, ok2, ok3⟩ := HOK.out.row hg
    have hrow := H.out.row hg
    dsimp only at ok1 ok2 ok3 hrow ⊢
    have EB : Hid (R = if Nm.chk T.data.toList = false then (10, plainB Z) else if (getM (plainB Z) T.data.toList).isSome then (7, plainB Z) else if 64 ≤ (plainB Z).length then (3, plainB Z) else (0, putM (plainB Z) T.data.toList pl)) := Lib.hid (by rw [ER.out, copyB, plain_get, hg]; rfl)
    have HROW := Lib.hid hrow
    have HO1 := Lib.hid ok1; have HO2 := Lib.hid ok2
    clear hrow ok1 ok2 ok3 hg K ER
    cases hc : Nm.chk T.data.toList with
    | false =>
      rw [hc] at C
      have ER2 : Hid (R = (10, plainB Z)) := Lib.hid (by rw [EB.out, if_pos hc])
      clear hc EB
      go_wp2_with fail
      refine (C.out _).mono ?_
      rintro e w2 ⟨rfl, hb2⟩
      have HB2 := Lib.hid hb2
      clear hb2 C
      go_wp2
      go_ret
      rw [ER2.out]
      exact ⟨Z, rfl, H.out.below HB2.out, rfl, HB2.out.mono HBw.out⟩
    | true =>
      rw [hc] at C
      cases hj : getM Z T.data.toList with
      | some q =>
        rw [hj] at hlk
        have ER2 : Hid (R = (7, plainB Z)) := Lib.hid (by rw [EB.out, if_neg (by simp [hc]), plain_get, hj]; rfl)
        clear hc EB hj
        go_wp2_with fail
        refine (C.out _).mono ?_
        rintro e w2 ⟨rfl, hb2⟩
        have HB2 := Lib.hid hb2
        clear hb2 C
        go_wp2
        go_ret
        rw [ER2.out]
        exact ⟨Z, rfl, H.out.below HB2.out, rfl, HB2.out.mono HBw.out⟩
      | none =>
        rw [hj] at hlk
        by_cases hz : 64 ≤ Z.length
        · have ER2 : Hid (R = (3, plainB Z)) := Lib.hid (by rw [EB.out, if_neg (by simp [hc]), plain_get, hj, plain_length]; exact if_pos hz)
          clear hc EB hj
          go_wp2_with fail
          refine (C.out _).mono ?_
          rintro e w2 ⟨rfl, hb2⟩
          have h2 := H.out.below hb2
          have c2 : w2.cell? ⟨g, 0, none⟩ = some (.map (some b)) := cell_of_heap h2.book
          have hlen := h2.map.len Try.underlying41
          simp only [toD_size] at hlen
          have hz2 : (64 : Int) ≤ (Z.length : Int) := by omega
          have HB2 := Lib.hid hb2; have H2 := Lib.hid h2
          clear hb2 C h2 c0 hlk
          go_wp2
          go_ret
          rw [ER2.out]
          exact ⟨Z, rfl, H2.out, rfl, HB2.out.mono HBw.out⟩
        · have ER2 : Hid (R = (0, putM (plainB Z) T.data.toList pl)) := Lib.hid (by rw [EB.out, if_neg (by simp [hc]), plain_get, hj, plain_length]; exact if_neg hz)
          clear hc EB hj
          go_wp2_with fail
          refine (C.out _).mono ?_
          rintro e w2 ⟨rfl, hb2⟩
          have h2 := H.out.below hb2
          have c2 : w2.cell? ⟨g, 0, none⟩ = some (.map (some b)) := cell_of_heap h2.book
          have hlen := h2.map.len Try.underlying41
          simp only [toD_size] at hlen
          have hz2 : ¬ (64 : Int) ≤ (Z.length : Int) := by omega
          have CL := Lib.hid (clone_any B w2.drew pv pl (rowS_kept (w' := w2.drew) HROW.out (fun y _ hy => hb2.block y hy)) (by have := HO2.out; omega) HO1.out)
          have HB2 := Lib.hid hb2; have H2 := Lib.hid h2
          clear hb2 C h2 c0 hlk
          go_wp2
          go_region_held3 (fun w' => w'.cell? ⟨g, 0, none⟩ = some (.map (some b)))
            (first
              | exact c4
              | exact c3
              | exact c2)
            (first
              | (go_at_call 18
                 refine CL.out.mono ?_
                 rintro e w3 ⟨v', rfl, ho3, hb3⟩
                 have h3 : BookAt X B w3 g b Z := (H2.out.kept (w' := w2.drew) (fun _ _ => rfl)).below hb3
                 have c3 : w3.cell? ⟨g, 0, none⟩ = some (.map (some b)) := cell_of_heap h3.book
                 obtain ⟨w4, hrun4, hown4, hturn4⟩ := h3.map.store law Try.underlying41 (by decide) (val := v') (keyK T hT) rfl
                 have c4 : w4.cell? ⟨g, 0, none⟩ = some (.map (some b)) := (World.cell?_of_block (a := ⟨g, 0, none⟩) (hturn4.grown.block g h3.lt_g (by simpa using h3.gb))).trans c3))
          have HO3 := Lib.hid ho3; have HB3 := Lib.hid hb3; have HO4 := Lib.hid hown4; have HT4 := Lib.hid hturn4
          clear ho3 hb3 hown4 hturn4 h3 c3 c4 hrun4
          go_wp2
          go_ret
          rw [ER2.out]
          obtain ⟨P1, P2⟩ := clone_end (w2 := w2.drew) (k := T.data.toList) (l := pl) (H2.out.kept (w' := w2.drew) (fun _ _ => rfl)) HB3.out HO3.out HO4.out HN.out HT4.out
          exact ⟨_, rfl, P1, plain_put _ _ _ _, (HB2.out.mono HBw.out).drew.trans P2⟩
end Go.Proofs.Ytjfmboiokplngaa.Rf
