import Derived.Test.YthcjjekkjbidlaaDoorZPStIn
import Derived.Test.YthcjjekkjbidlaaDoorZPStMay
import Derived.Test.YthcjjekkjbidlaaDoorZPStRefAt
import Derived.Test.YthcjjekkjbidlaaDoorZPStStrs
import Derived.Stop.BytesEq
import Derived.Test.YthcjjekkjbidlaaDoorZPSrHonSt
import Derived.Test.YthcjjekkjbidlaaDoorZPSrHonStep
import Derived.Test.YthcjjekkjbidlaaDoorZPShPlain
import Derived.Test.YthcjjekkjbidlaaDoorZPSrLook
import Derived.Test.YthcjjekkjbidlaaDoorZPShFixed
import Derived.Test.YthcjjekkjbidlaaDoorZPShQuick
import Derived.Lib.BufSteps
import Derived.Lib.BufferRead
import Derived.Test.YthcjjekkjbidlaaDoorZShelf
import Derived.Test.YthcjjekkjbidlaaDoorZPShRef
import Derived.Laws.EntriesVeiled
import Derived.WalkLawsBesides
import Derived.Test.YthcjjekkjbidlaaDoorZPStEncode
import Derived.Test.YthcjjekkjbidlaaDoorRows
import Derived.Test.YthcjjekkjbidlaaDoorZPStRef
import Derived.Lib.LaidU8
import Derived.MakeChecks
set_option linter.unusedSimpArgs false
set_option linter.unusedVariables false
/-
  StatixBack: how its items, its two indexes and its map of last places lie.
-/
namespace Go.Proofs.YthcjjekkjbidlaaDoor.St
open Go.RowKit Go.Maps Go.WideMaps Go.Proofs.YthcjjekkjbidlaaDoor.Rf Go.Proofs.YthcjjekkjbidlaaDoor.Rd

abbrev ItT : TypeId := 68
/-- A row of items that is only read. -/
def ItemsAt (w : World) (v : Value) (l : List It) : Prop :=
  ∃ a cap, v = .slice a l.length cap ∧ l.length ≤ maxLen ∧ (l ≠ [] → ∃ b o, a = some ⟨b, o, none⟩ ∧ b < w.heap.size ∧ ∀ (i : Nat) x, l[i]? = some x → w.rangeAt b (o + i * 7) x.cells) ∧ ∀ x ∈ l, x.Fits
def encI (n : Nat) : Value := .int .i64 (n : Int)
structure BkSt (w : World) (gx bx : Nat) (Lx : List SE) (gy ey : Nat) (Ly : List SE) (bm : Nat) (M : MV Nat) (W : World) : Prop where
  ix : IndexAt w.heap.size W gx bx Lx
  iy : IndexAt w.heap.size W gy ey Ly
  im : W.ownsMap Tryd.prog 9 Rv bm 1000000 (toD encI M)
  mb : w.heap.size ≤ bm
  sep : gx ≠ ey ∧ gx ≠ bm ∧ bx ≠ gy ∧ bx ≠ ey ∧ bx ≠ bm ∧ gy ≠ bm ∧ ey ≠ bm
  be : Below w.heap.size w W
section
variable {w : World} {gx bx : Nat} {Lx : List SE} {gy ey : Nat} {Ly : List SE} {bm : Nat} {M : MV Nat} {W W' : World}
theorem BkSt.below (h : BkSt w gx bx Lx gy ey Ly bm M W) (hb : Below W.heap.size W W') : BkSt w gx bx Lx gy ey Ly bm M W' :=
  ⟨h.ix.below hb, h.iy.below hb, ownsMap_block h.im (hb.block _ h.im.lt), h.mb, h.sep, h.be.trans (hb.mono h.be.size)⟩
end
theorem infoIt (x : It) : (Tryd.prog.info? ItT).map (·.size) = some x.cells.length := by show _ = some 7; kernel_rfl
end Go.Proofs.YthcjjekkjbidlaaDoor.St
/-
  All that the law of StatixSwept carries from round to round.
-/
namespace Go.Proofs.YthcjjekkjbidlaaDoor.Sr
open Go.RowKit Go.Maps Go.WideMaps Go.Proofs.YthcjjekkjbidlaaDoor.Rf Go.Proofs.YthcjjekkjbidlaaDoor.Nm Go.Proofs.YthcjjekkjbidlaaDoor.St

structure SwSt (B : Nat) (w : World) (r : Nat) (T : Tr) (g b : Nat) (X : List SE) (db : Nat) (D : MV (List UInt8)) (kb : Nat) (K : MV (Nat × Int)) (k c : Nat) : Prop where
  st : LawSt B w r T g b X db D kb K
  good : Good k T
  reads : T.reads ≤ c
  dl : D.length ≤ c
  kl : K.length ≤ c
section
variable {B : Nat} {w w' : World} {r : Nat} {T : Tr} {g b : Nat} {X : List SE} {db : Nat} {D : MV (List UInt8)} {kb : Nat} {K : MV (Nat × Int)} {k c : Nat}
theorem SwSt.below (h : SwSt B w r T g b X db D kb K k c) (hb : Below w.heap.size w w') : SwSt B w' r T g b X db D kb K k c :=
  ⟨h.st.below hb, h.good, h.reads, h.dl, h.kl⟩
theorem SwSt.more (h : SwSt B w r T g b X db D kb K k c) {c' : Nat} (hc : c ≤ c') : SwSt B w r T g b X db D kb K k c' :=
  ⟨h.st, h.good, Nat.le_trans h.reads hc, Nat.le_trans h.dl hc, Nat.le_trans h.kl hc⟩
theorem SwSt.call (h : SwSt B w r T g b X db D kb K k c) {T' : Tr} (hc : CallT B w r T w' T') : SwSt B w' r T' g b X db D kb K (k + 1) c :=
  ⟨h.st.call hc, hc.ch.good h.st.tree h.good, by rw [hc.ch.reads]; exact h.reads, h.dl, h.kl⟩
theorem SwSt.callLow (h : SwSt B w r T g b X db D kb K k c) {T' : Tr} (hc : CallT B w r T w' T') : Below B w w' :=
  hc.turn.below (fun y hy => h.st.tree.base y (by
    rw [List.mem_cons] at hy ⊢
    exact hy.imp id (fun h => List.mem_append_left _ h))) h.st.size
theorem SwSt.enter (h : SwSt B w r T g b X db D kb K k c) {p : List UInt8} {e : Ending} (hp : EntPost B w r T g b X db D kb K p e w') :
    e = .returned (.tuple #[]) ∧ ∃ T' X' D' K', SwSt B w' r T' g b X' db D' kb K' k (c + 1) ∧ Below B w w' := by
  obtain ⟨he, T', hL, hc, hm, hr, hu, hh⟩ := hp
  have gT' : Good k T' := ⟨by rw [hL]; exact h.good.deep, by rw [hL]; exact h.good.names, by rw [hL]; exact h.good.att, by rw [hL]; exact h.good.data, by rw [hL, hm]; exact h.good.ino, by rw [hL]; exact h.good.inos, by rw [hL, hc]; exact h.good.tick, by rw [hc]; exact h.good.clock, by rw [hm]; exact h.good.most, by rw [hL]; exact h.good.len⟩
  have hlow : Below B w w' := hu.below (fun y hy => by
    simp only [List.mem_cons, List.not_mem_nil, or_false] at hy
    rcases hy with rfl | rfl | rfl | rfl
    · exact h.st.tree.base _ (by simp)
    · exact h.st.idx.baseb
    · exact h.st.base.1
    · exact h.st.base.2) h.st.size
  refine ⟨he, T', ?_⟩
  rcases hh with ⟨h1, h2, h3⟩ | ⟨h1, h3⟩
  · exact ⟨_, _, _, ⟨h3, gT', Nat.le_trans hr (Nat.succ_le_succ h.reads), Nat.le_trans (putM_len _ _ _) (Nat.succ_le_succ h.dl), Nat.le_trans (putM_len _ _ _) (Nat.succ_le_succ h.kl)⟩, hlow⟩
  · exact ⟨X, D, K, ⟨h3, gT', Nat.le_trans hr (Nat.succ_le_succ h.reads), Nat.le_succ_of_le h.dl, Nat.le_succ_of_le h.kl⟩, hlow⟩
theorem SwSt.set (h : SwSt B w r T g b X db D kb K k c) {X' : List SE} (hi : IndexAt B w' g b X') (hu : Turn [b] w w') : SwSt B w' r T g b X' db D kb K k c ∧ Below B w w' :=
  ⟨⟨h.st.set hi hu, h.good, h.reads, h.dl, h.kl⟩, hu.below (fun y hy => by rw [List.mem_singleton] at hy; rw [hy]; exact h.st.idx.baseb) h.st.size⟩
/-- The index has another map. -/
theorem SwSt.keep (h : SwSt B w r T g b X db D kb K k c) {X' : List SE} {b' : Nat} (hi : IndexAt B w' g b' X') (hu : Turn [g] w w') (hb' : w.heap.size ≤ b') : SwSt B w' r T g b' X' db D kb K k c ∧ Below B w w' := by
  refine ⟨⟨⟨h.st.tree.turn hu (fun x hx hb => (h.st.off x hx).1 (by simpa using hb)), hi, ownsMap_block h.st.dat (hu.block _ h.st.dat.lt (by have := h.st.ne.1; simp; exact Ne.symm this)), ownsMap_block h.st.kep (hu.block _ h.st.kep.lt (by have := h.st.ne.2.1; simp; exact Ne.symm this)), fun x hx => ?_, ⟨h.st.ne.1, h.st.ne.2.1, ?_, ?_, h.st.ne.2.2.2.2⟩, h.st.base⟩, h.good, h.reads, h.dl, h.kl⟩, hu.below (fun y hy => by rw [List.mem_singleton] at hy; rw [hy]; exact h.st.idx.baseg) h.st.size⟩
  · have h1 := h.st.off x hx; have h2 := h.st.tree.lt x hx
    exact ⟨h1.1, by omega, h1.2.2⟩
  · have := h.st.dat.lt; omega
  · have := h.st.kep.lt; omega
end
theorem infoIt (x : It) : (Tryd.prog.info? ItT).map (·.size) = some x.cells.length := by show _ = some 7; kernel_rfl
theorem chg_lenS {k : Nat} {T : Tr} (g : Good k T) {X : List SE} (hk : k ≤ 500000 := by omega) : ∀ x ∈ chgL X T.L, x.length ≤ maxLen := by
  intro x hx
  rw [chgL, List.mem_map] at hx
  obtain ⟨y, hy, rfl⟩ := hx
  have h2 := ((g.fine hk).names y (List.mem_filter.1 hy).1).1
  unfold maxLen
  rw [pathN]; split
  · decide
  · omega
theorem SwSt.start {w w1 w2 w3 : World} {r p m g b : Nat} (h1 : Below w.heap.size w w1) (h2 : TreeAt w1.heap.size w2 r (newT p m)) (h3 : IndexAt w2.heap.size w3 g b []) (hb2 : Below w1.heap.size w1 w2) (hb3 : Below w2.heap.size w2 w3) :
    SwSt w.heap.size ((w3.alloc (.map #[] 0)).alloc (.map #[] 0)) r (newT p m) g b [] w3.heap.size [] (w3.heap.size + 1) [] 0 0 ∧ Below w.heap.size w ((w3.alloc (.map #[] 0)).alloc (.map #[] 0)) := by
  obtain ⟨a1, a2⟩ := HonSt.start h1 h2 h3 hb2 hb3
  exact ⟨⟨a1.st, a1.good, a1.reads, a1.dl, a1.kl⟩, a2⟩
theorem filT_snoc {L : List TE} {i : Nat} {e : TE} (h : L[i]? = some e) : filT (L.take (i + 1)) = filT (L.take i) ++ (if e.at_.node = 1 then [pathN e.nm] else []) := by
  rw [filT, filT, filN, filN, List.take_add_one, h, List.filter_append, List.map_append]
  congr 1
  by_cases h1 : e.at_.node = 1
  · simp [h1]
  · simp [h1]
theorem filT_len (L : List TE) : (filT L).length ≤ L.length := by rw [filT, List.length_map]; exact List.length_filter_le _ _
end Go.Proofs.YthcjjekkjbidlaaDoor.Sr
/-
  The contract of the program's Keep.
-/
namespace Go.Proofs.YthcjjekkjbidlaaDoor.St
open Go.RowKit Go.Maps Go.WideMaps Go.Proofs.YthcjjekkjbidlaaDoor.Rf Go.Proofs.YthcjjekkjbidlaaDoor.Rd

abbrev MapS (w : World) (s : Nat) (S : List SE) : Prop := w.ownsMap Tryd.prog 9 Rv s 1000000 (toD enV (toZ S))
/-- An entry is put into a map that no index holds yet. -/
theorem map_put {w : World} {s : Nat} {S : List SE} (h : MapS w s S) (hs : Srt S) {e : SE} (he : e.Fits) (hl : (insL e S).length ≤ 1000000) :
    ∃ w', (Instr.mapUpdate 104 (.map (some s)) (.string ⟨e.path.toArray⟩) (enV e)).run Tryd.prog w = .ok () w' ∧ MapS w' s (insL e S) ∧ Turn [s] w w' := by
  obtain ⟨w', hrun, hown, ht⟩ := h.store law Tryd.underlying104 (by decide) (val := enV e) (keyK ⟨e.path.toArray⟩ (by show e.path.length ≤ _; have := he.path; unfold maxLen; omega)) rfl
  have t := ht.grown
  have hT : Turn [s] w w' := ⟨t.os, t.tape, t.output, t.size, fun k hk hx => t.block k hk (by simpa using hx)⟩
  refine ⟨w', hrun, ?_, hT⟩
  have e1 : (⟨e.path.toArray⟩ : ByteArray).data.toList = e.path := by simp
  rw [e1, toD_put enV (toZ S) e.path e, toZ_put hs] at hown
  exact map_tight hown (by rw [toZ_length]; exact hl)
/-- What Keep's loop has put together behind k paths. -/
def stayK (L : List SE) (ps : List (List UInt8)) (k : Nat) : List SE := stayL L (ps.take k) []
theorem stayL_snoc (L : List SE) (p : List UInt8) : ∀ (ps : List (List UInt8)) (S : List SE), stayL L (ps ++ [p]) S = (match getL p L with | none => stayL L ps S | some e => insL e (stayL L ps S))
  | [], S => by rw [List.nil_append, stayL, stayL, stayL]; cases getL p L <;> rfl
  | q :: ps, S => by rw [List.cons_append, stayL, stayL, stayL_snoc L p ps]
theorem stayK_succ (L : List SE) (ps : List (List UInt8)) (k : Nat) (p : List UInt8) (hp : ps[k]? = some p) : stayK L ps (k + 1) = (match getL p L with | none => stayK L ps k | some e => insL e (stayK L ps k)) := by
  have : ps.take (k + 1) = ps.take k ++ [p] := by rw [List.take_add_one, hp]; rfl
  rw [stayK, this, stayL_snoc]; rfl
theorem stayK_srt (L : List SE) (ps : List (List UInt8)) (k : Nat) : Srt (stayK L ps k) := stayL_srt List.Pairwise.nil
theorem stayK_eq {L : List SE} (h : Srt L) (ps : List (List UInt8)) (k : Nat) : stayK L ps k = keepL (ps.take k) L := stay_keep h _
theorem keepL_len (ps : List (List UInt8)) (L : List SE) : (keepL ps L).length ≤ L.length := (keepL_sub ps L).length_le

set_option maxHeartbeats 8000000 in
set_option maxRecDepth 100000 in
theorem keep_any (B : Nat) (w : World) (g b : Nat) (L : List SE) (v : Value) (ps : List (List UInt8)) (hv : StrsAt w v ps) (h : IndexAt B w g b L) :
    Calls Tryd.prog 29 #[ptr g, v] w fun e w' => ∃ b', e = .returned (.tuple #[.int .i64 ((L.length : Int) - ((keepL ps L).length : Int)), .int .i64 0]) ∧ IndexAt B w' g b' (keepL ps L) ∧ Turn [g] w w' ∧ w.heap.size ≤ b' := by
  obtain ⟨a, cap, rfl, hpl, hpm, hpc⟩ := hv
  have hmm := @run_makeMap Tryd.prog
  have H := Lib.hid h; have HPM := Lib.hid hpm; have HPC := Lib.hid hpc
  have hpl2 := hpl
  unfold maxLen at hpl2
  have hll := h.len
  have hgw : g < w.heap.size := h.lt_g
  clear h hpm hpc hpl
  unfold ptr
  go_enter Tryd.func29, Tryd.ntmps29
  go_wp2
  go_loopw [17] (fun v17 wr => ∃ k : Nat, k ≤ ps.length ∧ v17 = .int .i64 k ∧ Hid (MapS wr w.heap.size (stayK L ps k)) ∧ Hid (Below w.heap.size w wr)) (fun v17 _ => ps.length - (RowKit.intOf v17).toNat)
  case atStart =>
    refine ⟨0, by omega, rfl, Lib.hid ?_, Lib.hid ((Below.refl _ _).alloc (Nat.le_refl _) _)⟩
    exact map_tight (enc := enV) (m := toZ []) (World.ownsMap_made w Tryd.prog 9 Rv) (by decide)
  case round =>
    obtain ⟨k, hk, rfl, HM, HB⟩ := hrel
    have hlen1 := (H.out.below HB.out).map.len Tryd.underlying104
    have hlen2 := HM.out.len Tryd.underlying104
    simp only [toD_size, toZ_length] at hlen1 hlen2
    have c0 : wr.cell? ⟨g, 0, none⟩ = some (.map (some b)) := cell_of_heap (H.out.below HB.out).book
    by_cases hkl : (k : Int) < (ps.length : Int)
    · have hk2 : k < ps.length := by omega
      obtain ⟨p, hp⟩ : ∃ p, ps[k]? = some p := ⟨_, List.getElem?_eq_getElem hk2⟩
      obtain ⟨bp, op, rfl, hbp, hcp⟩ := HPC.out (fun e => by rw [e] at hk2; cases hk2)
      have cp : wr.cell? ⟨bp, op + k, none⟩ = some (.string ⟨p.toArray⟩) := (HB.out.cell (p := ⟨bp, op + k, none⟩) hbp).trans (hcp k p hp)
      have hpsz : (⟨p.toArray⟩ : ByteArray).size ≤ maxLen := HPM.out p (List.mem_of_getElem? hp)
      have HIX := Lib.hid (H.out.below HB.out)
      have HST := Lib.hid (stayK_succ L ps k p hp)
      have HSL : Hid ((stayK L ps k).length ≤ 65536) := Lib.hid (by rw [stayK_eq H.out.srt]; have := keepL_len (ps.take k) L; omega)
      clear hcp hp hlen1 hlen2
      cases hg : getL p L with
      | none =>
        have hlk : (getL (⟨p.toArray⟩ : ByteArray).data.toList L) = none := by rw [ba_data]; exact hg
        rw [hg] at HST
        have ZOK := Lib.hid zero_fits.en
        have HLK := Lib.hid hlk
        have HPZ := Lib.hid hpsz
        clear hg hlk hpsz
        go_wp2_with (first
          | (refine wpList_look HIX.out rfl _ _ rfl rfl ⟨p.toArray⟩ rfl HPZ.out ?_; rw [HLK.out]; dsimp only [Option.getD, Option.isSome])
          | (refine wpList_store_new (by first | rfl | rw [one_size]) rfl _ _ _ rfl zeroS.cells.toArray rfl rfl ZOK.out.info ZOK.out.z ZOK.out.one ?_
             intro w2 hq2 hb2 hs2
             have HB2 := Lib.hid hb2
             clear hq2 hb2 hs2))
        go_roundw
        case rel => exact ⟨k + 1, by omega, by go_num, Lib.hid (by rw [HST.out]; exact ownsMap_block HM.out (HB2.out.block _ HM.out.lt)), Lib.hid (HB.out.trans (HB2.out.mono HB.out.size))⟩
        case measure => simp [RowKit.intOf]; omega
      | some e =>
        obtain ⟨hpe, hem⟩ := getL_path hg
        subst hpe
        have hlk : (getL (⟨e.path.toArray⟩ : ByteArray).data.toList L) = some e := by rw [ba_data]; exact hg
        rw [hg] at HST
        have hfe := H.out.fits e hem
        have HFE := Lib.hid hfe
        have EOK := Lib.hid hfe.en
        have HLK := Lib.hid hlk
        have HPZ := Lib.hid hpsz
        clear hg hlk hem hpsz hfe
        go_wp2_with (first
          | (refine wpList_look HIX.out rfl _ _ rfl rfl ⟨e.path.toArray⟩ rfl HPZ.out ?_; rw [HLK.out]; dsimp only [Option.getD, Option.isSome])
          | (refine wpList_store_new (by first | rfl | rw [one_size]) rfl _ _ _ rfl e.cells.toArray rfl rfl EOK.out.info EOK.out.z EOK.out.one ?_
             intro w2 hq2 hb2 hs2
             have HB2 := Lib.hid hb2
             have hr2 : w2.rangeAt wr.heap.size 0 e.cells := range_block hq2
             have HR2 := Lib.hid hr2
             obtain ⟨w4, hrun4, h4, ht4⟩ := map_put (ownsMap_block HM.out (HB2.out.block _ HM.out.lt)) (stayK_srt L ps k) HFE.out (by have := insL_length_le e (stayK L ps k); have := HSL.out; omega)
             have H4 := Lib.hid h4; have HT4 := Lib.hid ht4
             clear hq2 hb2 hs2 hr2 h4 ht4)
          | (refine wpList_load_mid rfl _ _ rfl wr.heap.size 0 rfl e.cells _ HR2.out Tryd.underlying65 rfl EOK.out.infoL ?_))
        go_roundw
        case rel =>
          refine ⟨k + 1, by omega, by go_num, Lib.hid (by rw [HST.out]; exact H4.out), Lib.hid ?_⟩
          have hb := HB.out.trans (HB2.out.mono HB.out.size)
          exact hb.trans (HT4.out.below (by simp) hb.size)
        case measure => simp [RowKit.intOf]; omega
    · obtain rfl : k = ps.length := by omega
      have hSL : (stayK L ps ps.length).length ≤ 65536 := by rw [stayK_eq H.out.srt]; have := keepL_len (ps.take ps.length) L; omega
      have HKL : Hid (stayK L ps ps.length = keepL ps L) := Lib.hid (by rw [stayK_eq H.out.srt, List.take_length])
      generalize stayK L ps ps.length = S at *
      have c1 : wr.frozen? ⟨g, 0, none⟩ = false := frozen_of_heap (H.out.below HB.out).book
      go_wp2
      go_ret2
      have hgr : g < wr.heap.size := Nat.lt_of_lt_of_le hgw HB.out.size
      rw [← HKL.out]
      refine ⟨rfl, w.heap.size, ⟨?_, ?_, by omega, H.out.baseg, Nat.le_trans H.out.baseg (Nat.le_of_lt hgw), by rw [HKL.out]; exact keepL_srt H.out.srt, fun x hx => H.out.fits x (by rw [HKL.out] at hx; exact (keepL_sub ps L).mem hx), hSL⟩, ?_, Nat.le_refl _⟩
      · rw [setCell_heap _ _ _ _ _ _ (H.out.below HB.out).book]; rfl
      · exact ownsMap_block HM.out (Below.heap_setCell _ _ _ _ (by show w.heap.size ≠ g; omega))
      · exact (Turn.of_below HB.out : Turn [g] w wr).setCell (.inl (by simp)) _
end Go.Proofs.YthcjjekkjbidlaaDoor.St
/-
  Bytes as digits and back, in plain words.
-/
namespace Go.Proofs.YthcjjekkjbidlaaDoor.Sh

/-- A digit's letter. -/
def hx (n : Nat) : UInt8 := if n < 10 then UInt8.ofNat (48 + n) else UInt8.ofNat (87 + n)
end Go.Proofs.YthcjjekkjbidlaaDoor.Sh
/-
  Decode's parts: the front cut off, what can't be read gives up, a number, some bytes.
-/
namespace Go.Proofs.YthcjjekkjbidlaaDoor.St
open Go.RowKit Go.Maps Go.WideMaps Go.Proofs.YthcjjekkjbidlaaDoor.Rf Go.Proofs.YthcjjekkjbidlaaDoor.Rd

/-- Whether all went well so far. -/
def OkAt (W : World) (A : Nat) (ok : Bool) : Prop := W.heap[A]? = some (.cells #[.bool ok] 4)
theorem OkAt.set {W : World} {A : Nat} {ok : Bool} (h : OkAt W A ok) (b : Bool) : OkAt (W.setCell ⟨A, 0, none⟩ (.bool b)) A b := by
  rw [OkAt, setCell_heap _ _ _ _ _ _ h]; rfl
theorem OkAt.below {W W' : World} {A : Nat} {ok : Bool} (h : OkAt W A ok) (hb : Below W.heap.size W W') : OkAt W' A ok := (hb.block _ (lt_of_heap h)).trans h
end Go.Proofs.YthcjjekkjbidlaaDoor.St
/-
  StatixBack's end: a byte of the copy is changed.
-/
namespace Go.Proofs.YthcjjekkjbidlaaDoor.Sh
open Go.RowKit Go.Proofs.YthcjjekkjbidlaaDoor.Rf Go.Proofs.YthcjjekkjbidlaaDoor.Rd Go.Proofs.YthcjjekkjbidlaaDoor.St
end Go.Proofs.YthcjjekkjbidlaaDoor.Sh
namespace Go.Proofs.YthcjjekkjbidlaaDoor.St
open Go.RowKit Go.Maps Go.WideMaps Go.Proofs.YthcjjekkjbidlaaDoor.Rf Go.Proofs.YthcjjekkjbidlaaDoor.Rd

theorem at_ok (a n : Int) (h0 : 0 < n) (h1 : n ≤ 400000000) : ∃ p : Nat, (p : Int) < n ∧ (wrap64 (a.tmod n + n)).tmod n = (p : Int) := by
  have e1 := Int.tmod_lt_of_pos a h0
  have e2 := Int.lt_tmod_of_pos a h0
  have hw : wrap64 (a.tmod n + n) = a.tmod n + n := by unfold wrap64; omega
  rw [hw, Int.tmod_eq_emod_of_nonneg (by omega)]
  have e3 := Int.emod_nonneg (a.tmod n + n) (show n ≠ 0 by omega)
  have e4 := Int.emod_lt_of_pos (a.tmod n + n) h0
  exact ⟨((a.tmod n + n) % n).toNat, by omega, by omega⟩
end Go.Proofs.YthcjjekkjbidlaaDoor.St
